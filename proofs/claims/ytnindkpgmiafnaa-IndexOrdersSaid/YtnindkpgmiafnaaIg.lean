/- Layer 22 (index): the document's Get, set, Move and Want. -/
import Derived.Test.YtnindkpgmiafnaaIf
namespace Go.Proofs.Ytnindkpgmiafnaa
open Go.RowKit Go.Maps Go.WideMaps
theorem item_of {A : Option Addr} {base p c : Nat} {w : World} {R : List Ent} (h : Rx w base p (.slice A R.length c) R) {m : Nat} (hm : m < R.length) : ∃ g, A = some ⟨g, 0, none⟩ ∧ w.rangeAt g (m * 73 + 33) (plc (R[m]!).p) := by
  obtain ⟨g, off, e, hg, hc⟩ := h.sarr (by omega)
  obtain ⟨g2, rfl⟩ := row_someS h.row (by have := row_le_capS h.row; omega)
  injection e with e
  injection e with e1 e2
  subst e1 e2
  refine ⟨_, rfl, ?_⟩
  have := item_pl (hc m hm)
  rwa [Nat.zero_add] at this
theorem look_at {R : List Ent} {k : List Int} {q : Pl} (hr : Rise R) (h : lookR k R = some q) : posR k R < R.length ∧ (R[posR k R]!).k = k ∧ (R[posR k R]!).p = q := by
  rw [look_pos hr] at h
  split at h
  · rename_i h1
    exact ⟨h1.1, h1.2, Option.some.inj h⟩
  · cases h

set_option maxRecDepth 100000 in
set_option maxHeartbeats 4000000 in
theorem rget20 (base p : Nat) (v : Value) (R : List Ent) (k : List Int)  (w : World) (hk : KeyOk 32 k) (h : Rx w base p v R) (hn : R.length < 100000000) (hbase : base ≤ w.heap.size) :
    Calls Try.prog 20 #[.pointer (some ⟨p, 0, none⟩), kv k] w fun e w' => e = .returned (.tuple #[plv ((lookR k R).getD ⟨0, 0, 0, 0⟩), .bool (lookR k R).isSome]) ∧ Below w.heap.size w w' := by
  have HK := Lib.hid hk
  have HR := Lib.hid h.rise
  obtain ⟨A, c, rfl⟩ := row_shapeS h.row
  have HX := Lib.hid h
  have HNS := Lib.hid (row_nilS h.row)
  have HNC := Lib.hid (row_le_capS h.row)
  have HSM : Hid (0 < c → ∃ g, A = some ⟨g, 0, none⟩) := Lib.hid (row_someS h.row)
  have HSP : Hid (∀ ad, A = some ad → ad.spot = none) := Lib.hid (sarr_spot h.sarr h.row)
  have HBS := Lib.hid hbase
  have HKL : Hid ((Try.prog.info? 26).map (·.size) = some (u8l k).length) := Lib.hid (by rw [u8l_len, hk.len]; exact infoKey)
  obtain ⟨i0, hi, hz0, hz1, hz2⟩ := infoParts infoIt
  have HI := Lib.hid (And.intro hi (And.intro hz0 (And.intro hz1 hz2)))
  clear hi hz0 hz1 hz2
  have HRN := Lib.hid hn
  change Calls Try.prog 20 #[.pointer (some ⟨p, 0, none⟩), .agg (u8l k).toArray] w _
  obtain ⟨kc, hkc⟩ : ∃ kc, kc = (u8l k).toArray := ⟨_, rfl⟩
  rw [← hkc]
  have HKC := Lib.hid hkc
  clear hkc hk h hbase
  go_enter Try.func20, Try.ntmps20
  go_upto_region 1 with fail
  obtain ⟨b4, hb4⟩ : ∃ b, b = w.heap.size := ⟨_, rfl⟩
  obtain ⟨w1, hw1⟩ : ∃ z, z = (w.alloc (.cells kc 26)).alloc (.cells #[.int .i64 0, .int .i64 0, .int .i64 0, .int .i64 0] 28) := ⟨_, rfl⟩
  have H4 : Hid (w1.heap[b4]? = some (.cells (u8l k).toArray 26 (0, 0))) := Lib.hid (by rw [hw1, hb4, HKC.out]; exact heap_old (heap_new w _))
  have H5 : Hid (w1.heap[b4 + 1]? = some (.cells (plc ⟨0, 0, 0, 0⟩).toArray 28 (0, 0))) := Lib.hid (by rw [hw1]; exact heap_new_at _ (by simp [hb4]))
  have BP : Hid (Below w.heap.size w w1) := Lib.hid (by rw [hw1]; exact ((Below.refl _ _).alloc (Nat.le_refl _) _).alloc (by simp) _)
  have HX := Lib.hid (HX.out.below BP.out)
  have HBW : Hid (w.heap.size ≤ b4 + 1) := Lib.hid (by omega)
  rw [← hw1, ← hb4]
  clear hw1 hb4 HKC
  have HK4 := Lib.hid (key_range H4.out)
  go_wp2_with (refine wpList_load_midG rfl 26 (.tmp 3) rfl b4 0 rfl (u8l k) _ HK4.out Try.underlying26 rfl HKL.out ?_)
  refine (place27 base p _ R k w1 HK.out HX.out (by omega)).mono ?_
  rintro e w3 ⟨rfl, hbx⟩
  have HX := Lib.hid (HX.out.below hbx)
  have H4 := Lib.hid ((hbx.block _ (heap_lt H4.out)).trans H4.out)
  have BP : Hid (Below w.heap.size w w3) := Lib.hid (BP.out.trans (hbx.mono BP.out.size))
  have H5 := Lib.hid ((hbx.block _ (heap_lt H5.out)).trans H5.out)
  clear hbx
  obtain ⟨d0, d1, d2, d3⟩ := pl_cells H5.out
  have f0 := frozen_of_row w3 (b4 + 1) 0 _ _ H5.out
  have f1 := frozen_of_row w3 (b4 + 1) 1 _ _ H5.out
  have f2 := frozen_of_row w3 (b4 + 1) 2 _ _ H5.out
  have f3 := frozen_of_row w3 (b4 + 1) 3 _ _ H5.out
  cases hL : lookR k R with
  | none =>
    rw [show (none : Option Pl).isSome = false from rfl]
    have HL := Lib.hid hL
    clear hL
    go_wp2_with fail
    exact bodyPost_ret (v := .tuple #[plv ⟨0, 0, 0, 0⟩, .bool false]) (by simp [results, Try.f20, go_sem, plv, d0, d1, d2, d3]) rfl ⟨by rw [HL.out]; rfl, by refine ((((BP.out.setCell ?_ _).setCell ?_ _).setCell ?_ _).setCell ?_ _) <;> exact HBW.out⟩
  | some q =>
    rw [show (some q).isSome = true from rfl]
    have HL := Lib.hid hL
    obtain ⟨hml, hmk, hmp⟩ := look_at HR.out hL
    obtain ⟨m, hm⟩ : ∃ m, m = posR k R := ⟨_, rfl⟩
    rw [← hm] at hml hmp ⊢
    obtain ⟨g, rfl, hri⟩ := item_of HX.out hml
    rw [hmp] at hri
    have HRI := Lib.hid hri
    have c0 := HX.out.at0
    have m0 : (0 : Int) ≤ m := by omega
    have m1 : (m : Int) < R.length := by omega
    clear hL hm hmk hmp hri
    go_wp2_with (refine wpList_load_midG rfl 28 (.tmp 23) rfl g (m * 73 + 33) rfl [.int .i64 q.a, .int .i64 q.n, .int .i64 q.u, .int .i64 q.r] _ HRI.out Try.underlying28 rfl sizePl ?_)
    exact bodyPost_ret (v := .tuple #[plv q, .bool true]) (by simp [results, Try.f20, go_sem, plv, plc, d0, d1, d2, d3]) rfl ⟨by rw [HL.out]; rfl, by refine ((((BP.out.setCell ?_ _).setCell ?_ _).setCell ?_ _).setCell ?_ _) <;> exact HBW.out⟩
/-- The place of an entry of the row turned. -/
theorem row_setE {w w' : World} {base g c : Nat} {R : List Ent} {m : Nat} {f : Ent} {cur : List Value} (ho : w.ownsRow base 43 73 (.slice (some ⟨g, 0, none⟩) R.length c) R.length (flatS (cE R) R.length)) (hc : w.heap[g]? = some (.cells cur.toArray 43 (0, 0))) (hm : m < R.length) (hk : f.k = (R[m]!).k)
    (hw : w'.heap[g]? = some (.cells (splice cur (m * 73 + 33) (plc f.p)).toArray 43 (0, 0))) : w'.ownsRow base 43 73 (.slice (some ⟨g, 0, none⟩) R.length c) (R.set m f).length (flatS (cE (R.set m f)) (R.set m f).length) := by
  have h3 := Nat.mul_le_mul_right 73 (show m + 1 ≤ R.length from hm)
  rw [Nat.add_mul] at h3
  have h := own_seg (o := m * 73 + 33) (ys := plc f.p) ho hc (by show m * 73 + 33 + 4 ≤ R.length * 73; omega) (by simpa using hw)
  rw [flat_setE hm hk] at h
  rw [List.length_set] at h ⊢
  exact h
set_option maxRecDepth 100000 in
set_option maxHeartbeats 4000000 in
theorem rset31 (base p : Nat) (v : Value) (R : List Ent) (m : Nat) (f : Ent) (w : World) (h : Rx w base p v R) (hn : R.length < 100000000) (hbase : base ≤ w.heap.size) (hm : m < R.length) (hf : f.k = (R[m]!).k) (hr : Rise (R.set m f)) :
    Calls Try.prog 31 #[.pointer (some ⟨p, 0, none⟩), .int .i64 m, plv f.p] w fun e w' => e = .returned (.tuple #[]) ∧ RxOut base p (R.set m f) w w' := by
  obtain ⟨A, c, rfl⟩ := row_shapeS h.row
  have HX := Lib.hid h
  have HNS := Lib.hid (row_nilS h.row)
  have HBS := Lib.hid hbase
  have HF := Lib.hid hf
  have HRS := Lib.hid hr
  obtain ⟨i0, hi, hz0, hz1, hz2⟩ := infoParts infoIt
  have HI := Lib.hid (And.intro hi (And.intro hz0 (And.intro hz1 hz2)))
  clear hi hz0 hz1 hz2 h hbase hf hr
  obtain ⟨q, hq⟩ : ∃ q, q = f.p := ⟨_, rfl⟩
  have HQ := Lib.hid hq
  rw [← hq]
  clear hq
  go_enter Try.func31, Try.ntmps31
  go_upto_region 1 with fail
  obtain ⟨b5, hb5⟩ : ∃ b, b = w.heap.size := ⟨_, rfl⟩
  obtain ⟨w1, hw1⟩ : ∃ z, z = w.alloc (.cells #[.int .i64 q.a, .int .i64 q.n, .int .i64 q.u, .int .i64 q.r] 28) := ⟨_, rfl⟩
  have H5 : Hid (w1.heap[b5]? = some (.cells (plc q).toArray 28 (0, 0))) := Lib.hid (by rw [hw1]; exact heap_new_at _ hb5)
  have BP : Hid (Below w.heap.size w w1) := Lib.hid (by rw [hw1]; exact (Below.refl _ _).alloc (Nat.le_refl _) _)
  have HX := Lib.hid (HX.out.below BP.out)
  rw [← hw1, ← hb5]
  clear hw1 hb5
  obtain ⟨g0, hg0⟩ : ∃ g, g = w1.heap.size := ⟨_, rfl⟩
  obtain ⟨w4, hw4⟩ : ∃ z, z = w1.alloc (.cells #[] 43) := ⟨_, rfl⟩
  have K0 : Hid (w4.heap[g0]? = some (.cells #[] 43 (0, 0))) := Lib.hid (by rw [hw4]; exact heap_new_at _ hg0)
  have HX4 : Hid (Rx w4 base p (.slice A R.length c) R) := Lib.hid (by rw [hw4]; exact HX.out.below ((Below.refl _ _).alloc (Nat.le_refl _) _))
  have B34 : Hid (Below w1.heap.size w1 w4) := Lib.hid (by rw [hw4]; exact (Below.refl _ _).alloc (Nat.le_refl _) _)
  have HG0 := Lib.hid hg0
  have OW0 := Lib.hid (own_empty (base := w1.heap.size) (size := 73) K0.out (Nat.le_of_eq hg0.symm))
  have SA : Hid (SArr w4 w4.heap.size A R.length 73 (cE R)) := Lib.hid (HX4.out.sarr)
  have HNM : Hid (A = none → R.length = 0 ∧ c = 0) := Lib.hid fun e => by have := HNS.out e; omega
  have c0 := HX.out.at0
  have c4 := HX4.out.at0
  have hpl := heap_lt HX.out.cell
  have HB4 : Hid (w1.heap.size ≤ w4.heap.size) := Lib.hid B34.out.size
  go_upto_region 2 with (first | (at_builtin; (try rw [← hw4, ← hg0]); refine wpList_append_any rfl (.tmp 7) (.tmp 11) 36 rfl w1.heap.size 43 i0 (.agg zIt.toArray) 73 136 Try.underlying36 HI.out.1 HI.out.2.1 HI.out.2.2.1 HI.out.2.2.2 rfl (by decide) (.slice (some ⟨g0, 0, none⟩) 0 0) 0 [] rfl OW0.out A R.length c (flatS (cE R) R.length) rfl HNM.out (flatS_len (wideE _) R.length) (fun ad e => SA.out.cellsAt (wideE _) ad e) (onesE _ R.length) (by unfold maxLen; omega) (by omega) HB4.out ?_; intro v5 w5 ho5 hg5))
  rw [Nat.zero_add, List.nil_append] at ho5
  have O5 := Lib.hid ho5
  have B45 : Hid (Below w1.heap.size w1 w5) := Lib.hid (B34.out.grown hg5 B34.out.size (fun k e => by have e2 : g0 = k := (by simpa [Value.ownBlock] using e); rw [← e2]; exact Nat.le_of_eq HG0.out.symm))
  have HX5 := Lib.hid (HX.out.below B45.out)
  have BP5 : Hid (Below w.heap.size w w5) := Lib.hid (BP.out.trans (B45.out.mono BP.out.size))
  clear ho5 hg5 hw4 hg0 c0 c4 hpl B34 K0 OW0 SA HX4 HB4
  have H5 := Lib.hid ((B45.out.block _ (heap_lt H5.out)).trans H5.out)
  obtain ⟨A5, c5, rfl⟩ := row_shapeS O5.out
  obtain ⟨g5, rfl⟩ := row_someS O5.out (by have := row_le_capS O5.out; omega)
  obtain ⟨cur, hcur, hlen⟩ := row_blk O5.out
  have HCU := Lib.hid hcur
  have HP5 : Hid (w5.rangeAt b5 0 [.int .i64 q.a, .int .i64 q.n, .int .i64 q.u, .int .i64 q.r]) := Lib.hid (range_of (cs := plc q) H5.out)
  have HFT : Hid (m * 73 + 33 + [Value.int .i64 q.a, .int .i64 q.n, .int .i64 q.u, .int .i64 q.r].length ≤ cur.length) := Lib.hid (by have h3 := Nat.mul_le_mul_right 73 (show m + 1 ≤ R.length from hm); rw [Nat.add_mul] at h3; show m * 73 + 33 + 4 ≤ _; omega)
  have HP1 : Hid (∀ v ∈ [Value.int .i64 q.a, .int .i64 q.n, .int .i64 q.u, .int .i64 q.r], v.oneCell' = true) := Lib.hid (by intro v hv; simp at hv; rcases hv with rfl | rfl | rfl | rfl <;> rfl)
  have m0 : (0 : Int) ≤ m := by omega
  have m1 : (m : Int) < R.length := by omega
  have HG5 : Hid (w1.heap.size ≤ g5) := Lib.hid (row_lt O5.out (k := g5) rfl).1
  clear hcur hlen
  go_upto_region 3 with (first | (refine wpList_load_midG rfl 28 (.tmp 5) rfl b5 0 rfl [.int .i64 q.a, .int .i64 q.n, .int .i64 q.u, .int .i64 q.r] _ HP5.out Try.underlying28 rfl sizePl ?_) | (refine wpList_store_segK rfl 28 (.tmp 17) (.tmp 15) rfl g5 (m * 73 + 33) rfl [.int .i64 q.a, .int .i64 q.n, .int .i64 q.u, .int .i64 q.r] rfl cur 43 HCU.out sizePl HFT.out HP1.out rfl ?_; intro w6 h6 k6 s6))
  have hq := HQ.out
  have O6 : Hid (w6.ownsRow w1.heap.size 43 73 (.slice (some ⟨g5, 0, none⟩) R.length c5) (R.set m f).length (flatS (cE (R.set m f)) (R.set m f).length)) := Lib.hid (row_setE O5.out HCU.out hm HF.out (by rw [← hq]; exact h6))
  have B16 : Hid (Below w1.heap.size w1 w6) := Lib.hid (B45.out.trans (k6.below (fun z hz => by rw [hz]; exact HG5.out) B45.out.size))
  have HX6 := Lib.hid (HX.out.below B16.out)
  have c6 := HX6.out.at0
  have f6 := frozen_of_row w6 p 0 _ _ HX6.out.cell
  clear h6 k6 s6 hq
  go_wp2_with fail
  exact bodyPost_end (results_none rfl _ _ _) rfl ⟨rfl, ⟨_, rx_store HX6.out O6.out (Nat.le_trans HBS.out BP.out.size) HRS.out⟩, Keeps.from (BP.out.trans (B16.out.mono BP.out.size)) (Keeps.setCell _ _ ⟨p, 0, none⟩ _ rfl)⟩
theorem set_is {R : List Ent} {k : List Int} {q q1 : Pl} (hr : Rise R) (hk : KeyOk 32 k) (hm1 : mayB q1 = true) (h : lookR k R = some q) : R.set (posR k R) (mkE k q1) = setR (mkE k q1) R := by
  obtain ⟨h1, h2, _⟩ := look_at hr h
  have hkk := mkE_k hk hm1
  have := set_pos (x := mkE k q1) hr (by rw [hkk]; exact h1) (by rw [hkk]; exact h2)
  rw [this, hkk]
/-- set, of a place that is found. -/
theorem rset_found {base p : Nat} {v : Value} {R : List Ent} {k : List Int} {q q1 : Pl} (hk : KeyOk 32 k) (hL : lookR k R = some q) (hm1 : mayB q1 = true) (hr : Rise R) (hn : R.length < 100000000) (w : World) (h : Rx w base p v R) (hbase : base ≤ w.heap.size) :
    Calls Try.prog 31 #[.pointer (some ⟨p, 0, none⟩), .int .i64 (posR k R : Nat), plv q1] w fun e w' => e = .returned (.tuple #[]) ∧ RxOut base p (setR (mkE k q1) R) w w' := by
  obtain ⟨h1, h2, _⟩ := look_at hr hL
  have hs := set_is hr hk hm1 hL
  have := rset31 base p v R (posR k R) (mkE k q1) w h hn hbase h1 (by rw [mkE_k hk hm1]; exact h2.symm) (by rw [hs]; exact rise_set hr)
  rw [mkE_p hk hm1, hs] at this
  exact this
theorem RxOut.after {base p : Nat} {R : List Ent} {a b c : World} (h1 : Below a.heap.size a b) (h : RxOut base p R b c) : RxOut base p R a c := ⟨h.1, Keeps.from h1 h.2⟩
set_option maxRecDepth 100000 in
set_option maxHeartbeats 4000000 in
theorem rmove16 (base p : Nat) (v : Value) (R : List Ent) (k : List Int) (x : Int) (w : World) (hk : KeyOk 32 k) (h : Rx w base p v R) (hn : R.length < 100000000) (hbase : base ≤ w.heap.size) :
    Calls Try.prog 16 #[.pointer (some ⟨p, 0, none⟩), kv k, .int .i64 x] w fun e w' => e = .returned (.int .i64 (moveE R k x)) ∧ RxOut base p (moveR R k x) w w' := by
  have HK := Lib.hid hk
  have HR := Lib.hid h.rise
  obtain ⟨A, c, rfl⟩ := row_shapeS h.row
  have HX := Lib.hid h
  have HNS := Lib.hid (row_nilS h.row)
  have HNC := Lib.hid (row_le_capS h.row)
  have HSM : Hid (0 < c → ∃ g, A = some ⟨g, 0, none⟩) := Lib.hid (row_someS h.row)
  have HSP : Hid (∀ ad, A = some ad → ad.spot = none) := Lib.hid (sarr_spot h.sarr h.row)
  have HBS := Lib.hid hbase
  have HKL : Hid ((Try.prog.info? 26).map (·.size) = some (u8l k).length) := Lib.hid (by rw [u8l_len, hk.len]; exact infoKey)
  obtain ⟨i0, hi, hz0, hz1, hz2⟩ := infoParts infoIt
  have HI := Lib.hid (And.intro hi (And.intro hz0 (And.intro hz1 hz2)))
  clear hi hz0 hz1 hz2
  have HRN := Lib.hid hn
  change Calls Try.prog 16 #[.pointer (some ⟨p, 0, none⟩), .agg (u8l k).toArray, .int .i64 x] w _
  obtain ⟨kc, hkc⟩ : ∃ kc, kc = (u8l k).toArray := ⟨_, rfl⟩
  rw [← hkc]
  have HKC := Lib.hid hkc
  clear hkc hk h hbase
  go_enter Try.func16, Try.ntmps16
  go_upto_region 1 with fail
  obtain ⟨b4, hb4⟩ : ∃ b, b = w.heap.size := ⟨_, rfl⟩
  obtain ⟨w1, hw1⟩ : ∃ z, z = w.alloc (.cells kc 26) := ⟨_, rfl⟩
  have H4 : Hid (w1.heap[b4]? = some (.cells (u8l k).toArray 26 (0, 0))) := Lib.hid (by rw [hw1, hb4, HKC.out]; exact heap_new w _)
  have BP : Hid (Below w.heap.size w w1) := Lib.hid (by rw [hw1]; exact (Below.refl _ _).alloc (Nat.le_refl _) _)
  have HX := Lib.hid (HX.out.below BP.out)
  rw [← hw1, ← hb4]
  clear hw1 hb4 HKC
  have HK4 := Lib.hid (key_range H4.out)
  go_wp2_with (refine wpList_load_midG rfl 26 (.tmp 4) rfl b4 0 rfl (u8l k) _ HK4.out Try.underlying26 rfl HKL.out ?_)
  refine (place27 base p _ R k w1 HK.out HX.out (by omega)).mono ?_
  rintro e w3 ⟨rfl, hbx⟩
  have HX := Lib.hid (HX.out.below hbx)
  have H4 := Lib.hid ((hbx.block _ (heap_lt H4.out)).trans H4.out)
  have BP : Hid (Below w.heap.size w w3) := Lib.hid (BP.out.trans (hbx.mono BP.out.size))
  clear hbx
  cases hL : lookR k R with
  | none =>
    have HE : Hid (moveE R k x = 6 ∧ moveR R k x = R) := Lib.hid ⟨by unfold moveE; rw [hL], by unfold moveR; rw [hL]⟩
    rw [show (none : Option Pl).isSome = false from rfl]
    clear hL
    go_wp2_with fail
    go_ret
    exact ⟨by rw [HE.out.1]; rfl, by rw [HE.out.2]; exact ⟨⟨_, HX.out⟩, Keeps.fresh BP.out⟩⟩
  | some q =>
    rw [show (some q).isSome = true from rfl]
    obtain ⟨hml, hmk, hmp⟩ := look_at HR.out hL
    have HMY := Lib.hid (look_may hL)
    have hqr := may_true.1 HMY.out
    have HSET := Lib.hid fun (q1 : Pl) (hm1 : mayB q1 = true) (W : World) (h : Rx W base p (.slice A R.length c) R) (hb : base ≤ W.heap.size) => rset_found HK.out hL hm1 HR.out hn W h hb
    have HBW : Hid (base ≤ w3.heap.size) := Lib.hid (Nat.le_trans HBS.out BP.out.size)
    obtain ⟨m, hm⟩ : ∃ m, m = posR k R := ⟨_, rfl⟩
    have HM := Lib.hid hm
    rw [← hm] at hml hmp hmk HSET ⊢
    obtain ⟨g, rfl, hri⟩ := item_of HX.out hml
    rw [hmp] at hri
    have HRI := Lib.hid hri
    have c0 := HX.out.at0
    have m0 : (0 : Int) ≤ m := by omega
    have m1 : (m : Int) < R.length := by omega
    have HMK := Lib.hid hmk
    by_cases hx : 0 ≤ x ∧ x ≤ 262144
    rotate_left
    · have HE : Hid (moveE R k x = 2 ∧ moveR R k x = R) := Lib.hid ⟨by unfold moveE; rw [hL]; exact if_neg hx, by unfold moveR; rw [hL]; exact if_neg hx⟩
      by_cases h0 : x < 0
      · have t1 : decide (x < 0) = true := by simpa using h0
        clear hL hm hmk hmp hri hx h0
        go_wp2_with fail
        go_ret
        exact ⟨by rw [HE.out.1]; rfl, by rw [HE.out.2]; exact ⟨⟨_, HX.out⟩, Keeps.fresh BP.out⟩⟩
      · have t1 : decide (x < 0) = false := by simpa using h0
        have t2 : decide (262144 < x) = true := by simp; omega
        clear hL hm hmk hmp hri hx h0
        go_wp2_with fail
        go_ret
        exact ⟨by rw [HE.out.1]; rfl, by rw [HE.out.2]; exact ⟨⟨_, HX.out⟩, Keeps.fresh BP.out⟩⟩
    · have HE : Hid (moveE R k x = 0 ∧ moveR R k x = setR (mkE k { q with a := x }) R) := Lib.hid ⟨by unfold moveE; rw [hL]; exact if_pos hx, by unfold moveR; rw [hL]; exact if_pos hx⟩
      have HS1 := Lib.hid (HSET.out { q with a := x } (may_move HMY.out hx))
      have t1 : decide (x < 0) = false := by simp; omega
      have t2 : decide (262144 < x) = false := by simp; omega
      clear hL hm hmk hmp hri hx HSET
      go_wp2_with (refine wpList_load_midG rfl 28 (.tmp 30) rfl g (m * 73 + 33) rfl [.int .i64 q.a, .int .i64 q.n, .int .i64 q.u, .int .i64 q.r] _ HRI.out Try.underlying28 rfl sizePl ?_)
      have BA : Hid (Below w3.heap.size w3 (w3.alloc (.cells #[.int .i64 x, .int .i64 q.n, .int .i64 q.u, .int .i64 q.r] 28))) := Lib.hid ((Below.refl _ _).alloc (Nat.le_refl _) _)
      refine (HS1.out _ (HX.out.below BA.out) (Nat.le_trans HBW.out BA.out.size)).mono ?_
      rintro e w5 ⟨rfl, ho⟩
      have HO := Lib.hid ho
      clear ho
      go_wp2_with fail
      go_ret
      exact ⟨by rw [HE.out.1]; rfl, by rw [HE.out.2]; exact HO.out.after (BP.out.trans (BA.out.mono BP.out.size))⟩
set_option maxHeartbeats 400000 in
theorem flat_del_at {k : List Int} {R : List Ent} {q : Pl} (hr : Rise R) (h : lookR k R = some q) : flatS (cE R) (posR k R) ++ flatS (fun i => cE R (posR k R + 1 + i)) (R.length - (posR k R + 1)) = flatS (cE (delR k R)) (delR k R).length := flat_delE hr (look_at hr h).1 (look_at hr h).2.1
set_option maxRecDepth 100000 in
set_option maxHeartbeats 4000000 in
theorem rwant18 (base p : Nat) (v : Value) (R : List Ent) (k : List Int) (x : Int) (w : World) (hk : KeyOk 32 k) (h : Rx w base p v R) (hn : R.length < 100000000) (hbase : base ≤ w.heap.size) (hxb : -9223372036854775808 ≤ x ∧ x ≤ 9223372036854775807) :
    Calls Try.prog 18 #[.pointer (some ⟨p, 0, none⟩), kv k, .int .i64 x] w fun e w' => e = .returned (.int .i64 (wantE R k x)) ∧ RxOut base p (wantR R k x) w w' := by
  have HK := Lib.hid hk
  have HR := Lib.hid h.rise
  obtain ⟨A, c, rfl⟩ := row_shapeS h.row
  have HX := Lib.hid h
  have HNS := Lib.hid (row_nilS h.row)
  have HNC := Lib.hid (row_le_capS h.row)
  have HSM : Hid (0 < c → ∃ g, A = some ⟨g, 0, none⟩) := Lib.hid (row_someS h.row)
  have HSP : Hid (∀ ad, A = some ad → ad.spot = none) := Lib.hid (sarr_spot h.sarr h.row)
  have HBS := Lib.hid hbase
  have HKL : Hid ((Try.prog.info? 26).map (·.size) = some (u8l k).length) := Lib.hid (by rw [u8l_len, hk.len]; exact infoKey)
  obtain ⟨i0, hi, hz0, hz1, hz2⟩ := infoParts infoIt
  have HI := Lib.hid (And.intro hi (And.intro hz0 (And.intro hz1 hz2)))
  clear hi hz0 hz1 hz2
  have HRN := Lib.hid hn
  change Calls Try.prog 18 #[.pointer (some ⟨p, 0, none⟩), .agg (u8l k).toArray, .int .i64 x] w _
  obtain ⟨kc, hkc⟩ : ∃ kc, kc = (u8l k).toArray := ⟨_, rfl⟩
  rw [← hkc]
  have HKC := Lib.hid hkc
  clear hkc hk h hbase
  have HXB := Lib.hid hxb
  clear hxb
  go_enter Try.func18, Try.ntmps18
  go_upto_region 1 with fail
  obtain ⟨b4, hb4⟩ : ∃ b, b = w.heap.size := ⟨_, rfl⟩
  obtain ⟨w1, hw1⟩ : ∃ z, z = w.alloc (.cells kc 26) := ⟨_, rfl⟩
  have H4 : Hid (w1.heap[b4]? = some (.cells (u8l k).toArray 26 (0, 0))) := Lib.hid (by rw [hw1, hb4, HKC.out]; exact heap_new w _)
  have BP : Hid (Below w.heap.size w w1) := Lib.hid (by rw [hw1]; exact (Below.refl _ _).alloc (Nat.le_refl _) _)
  have HX := Lib.hid (HX.out.below BP.out)
  rw [← hw1, ← hb4]
  clear hw1 hb4 HKC
  have HK4 := Lib.hid (key_range H4.out)
  go_wp2_with (refine wpList_load_midG rfl 26 (.tmp 4) rfl b4 0 rfl (u8l k) _ HK4.out Try.underlying26 rfl HKL.out ?_)
  refine (place27 base p _ R k w1 HK.out HX.out (by omega)).mono ?_
  rintro e w3 ⟨rfl, hbx⟩
  have HX := Lib.hid (HX.out.below hbx)
  have H4 := Lib.hid ((hbx.block _ (heap_lt H4.out)).trans H4.out)
  have BP : Hid (Below w.heap.size w w3) := Lib.hid (BP.out.trans (hbx.mono BP.out.size))
  clear hbx
  cases hL : lookR k R with
  | none =>
    have HE : Hid (wantE R k x = 6 ∧ wantR R k x = R) := Lib.hid ⟨by unfold wantE; rw [hL], by unfold wantR; rw [hL]⟩
    rw [show (none : Option Pl).isSome = false from rfl]
    clear hL
    go_wp2_with fail
    go_ret
    exact ⟨by rw [HE.out.1]; rfl, by rw [HE.out.2]; exact ⟨⟨_, HX.out⟩, Keeps.fresh BP.out⟩⟩
  | some q =>
    rw [show (some q).isSome = true from rfl]
    obtain ⟨hml, hmk, hmp⟩ := look_at HR.out hL
    have HMY := Lib.hid (look_may hL)
    have hqr := may_true.1 HMY.out
    have HSET := Lib.hid fun (q1 : Pl) (hm1 : mayB q1 = true) (W : World) (h : Rx W base p (.slice A R.length c) R) (hb : base ≤ W.heap.size) => rset_found HK.out hL hm1 HR.out hn W h hb
    have HBW : Hid (base ≤ w3.heap.size) := Lib.hid (Nat.le_trans HBS.out BP.out.size)
    obtain ⟨m, hm⟩ : ∃ m, m = posR k R := ⟨_, rfl⟩
    have HM := Lib.hid hm
    rw [← hm] at hml hmp hmk HSET ⊢
    obtain ⟨g, rfl, hri⟩ := item_of HX.out hml
    rw [hmp] at hri
    have HRI := Lib.hid hri
    have c0 := HX.out.at0
    have m0 : (0 : Int) ≤ m := by omega
    have m1 : (m : Int) < R.length := by omega
    have HMK := Lib.hid hmk
    have HLL := Lib.hid hL
    have hr0 : 0 ≤ q.r ∧ q.r ≤ 2147483647 := hqr.2.2.2
    have hw1 : IntKind.i64.wrap (2147483647 - q.r) = 2147483647 - q.r := IntWalk.i64_in _ (by omega)
    have hw2 : IntKind.i64.wrap (-q.r) = -q.r := IntWalk.i64_in _ (by omega)
    by_cases hx : -q.r ≤ x ∧ x ≤ 2147483647 - q.r
    rotate_left
    · have HE : Hid (wantE R k x = 2 ∧ wantR R k x = R) := Lib.hid ⟨by unfold wantE; rw [hL]; exact if_neg hx, by unfold wantR; rw [hL]; exact if_neg hx⟩
      have BA : Hid (Below w3.heap.size w3 (w3.alloc (.cells #[.int .i64 q.a, .int .i64 q.n, .int .i64 q.u, .int .i64 q.r] 28))) := Lib.hid ((Below.refl _ _).alloc (Nat.le_refl _) _)
      by_cases h0 : 2147483647 - q.r < x
      · have t1 : decide (2147483647 - q.r < x) = true := by simpa using h0
        clear hL hm hmk hmp hri hx h0
        go_wp2_with (refine wpList_load_midG rfl 28 (.tmp 24) rfl g (m * 73 + 33) rfl [.int .i64 q.a, .int .i64 q.n, .int .i64 q.u, .int .i64 q.r] _ HRI.out Try.underlying28 rfl sizePl ?_)
        go_ret
        exact ⟨by rw [HE.out.1]; rfl, by rw [HE.out.2]; exact ⟨⟨_, HX.out.below BA.out⟩, Keeps.fresh (BP.out.trans (BA.out.mono BP.out.size))⟩⟩
      · have t1 : decide (2147483647 - q.r < x) = false := by simpa using h0
        have t2 : decide (x < -q.r) = true := by simp; omega
        clear hL hm hmk hmp hri hx h0
        go_wp2_with (refine wpList_load_midG rfl 28 (.tmp 24) rfl g (m * 73 + 33) rfl [.int .i64 q.a, .int .i64 q.n, .int .i64 q.u, .int .i64 q.r] _ HRI.out Try.underlying28 rfl sizePl ?_)
        go_ret
        exact ⟨by rw [HE.out.1]; rfl, by rw [HE.out.2]; exact ⟨⟨_, HX.out.below BA.out⟩, Keeps.fresh (BP.out.trans (BA.out.mono BP.out.size))⟩⟩
    · have t1 : decide (2147483647 - q.r < x) = false := by simp; omega
      have t2 : decide (x < -q.r) = false := by simp; omega
      have hw3 : IntKind.i64.wrap (q.r + x) = q.r + x := IntWalk.i64_in _ (by omega)
      have BA : Hid (Below w3.heap.size w3 (w3.alloc (.cells #[.int .i64 q.a, .int .i64 q.n, .int .i64 q.u, .int .i64 (q.r + x)] 28))) := Lib.hid ((Below.refl _ _).alloc (Nat.le_refl _) _)
      by_cases hz : q.r + x = 0
      rotate_left
      · have HE : Hid (wantE R k x = 0 ∧ wantR R k x = setR (mkE k { q with r := q.r + x }) R) := Lib.hid ⟨by unfold wantE; rw [hL]; exact if_pos hx, by unfold wantR; rw [hL]; dsimp only; rw [if_pos hx, if_neg hz]⟩
        have HS1 := Lib.hid (HSET.out { q with r := q.r + x } (may_want HMY.out hx))
        have t3 : (q.r + x == 0) = false := by simpa using hz
        clear hL hm hmk hmp hri hx HSET hz
        go_wp2_with (refine wpList_load_midG rfl 28 (.tmp 24) rfl g (m * 73 + 33) rfl [.int .i64 q.a, .int .i64 q.n, .int .i64 q.u, .int .i64 q.r] _ HRI.out Try.underlying28 rfl sizePl ?_)
        refine (HS1.out _ (HX.out.below BA.out) (Nat.le_trans HBW.out BA.out.size)).mono ?_
        rintro e w5 ⟨rfl, ho⟩
        have HO := Lib.hid ho
        clear ho
        go_wp2_with fail
        go_ret
        exact ⟨by rw [HE.out.1]; rfl, by rw [HE.out.2]; exact HO.out.after (BP.out.trans (BA.out.mono BP.out.size))⟩
      · have HE : Hid (wantE R k x = 0 ∧ wantR R k x = delR k R) := Lib.hid ⟨by unfold wantE; rw [hL]; exact if_pos hx, by unfold wantR; rw [hL]; dsimp only; rw [if_pos hx, if_pos hz]⟩
        have t3 : (q.r + x == 0) = true := by simpa using hz
        have hfd := flat_del_at HR.out hL
        have hdl := del_len HR.out (k := k) (by rw [hL]; rfl)
        rw [← hm] at hfd
        have HFD := Lib.hid hfd
        have HDL := Lib.hid hdl
        clear hL hm hmk hmp hri hx HSET hz hfd hdl
        go_wp2_with (refine wpList_load_midG rfl 28 (.tmp 24) rfl g (m * 73 + 33) rfl [.int .i64 q.a, .int .i64 q.n, .int .i64 q.u, .int .i64 q.r] _ HRI.out Try.underlying28 rfl sizePl ?_)
        obtain ⟨w4, hw4⟩ : ∃ z, z = w3.alloc (.cells #[.int .i64 q.a, .int .i64 q.n, .int .i64 q.u, .int .i64 (q.r + x)] 28) := ⟨_, rfl⟩
        rw [← hw4] at BA ⊢
        have HX := Lib.hid (HX.out.below BA.out)
        have BP := Lib.hid (BP.out.trans (BA.out.mono BP.out.size))
        clear hw4 t1 t2 t3 hw1 hw2 hw3 c0
        have hrest := sarr_rest (m := m + 1) HX.out.sarr (fun h => by cases h) HNC.out hml
        have hmn : m ≤ R.length := Nat.le_of_lt hml
        obtain ⟨A8, hA8⟩ : ∃ A8, A8 = if c = m + 1 then (some ⟨g, 0, none⟩ : Option Addr) else (some ⟨g, 0, none⟩ : Option Addr).map (·.add ((m + 1) * 73)) := ⟨_, rfl⟩
        rw [← hA8] at hrest
        have HN8 := Lib.hid hrest.2
        have HS8 : Hid (∀ W, Below w4.heap.size w4 W → SArr W W.heap.size A8 (R.length - (m + 1)) 73 fun i => cE R (m + 1 + i)) := Lib.hid fun W h => (hrest.1.below h (Nat.le_refl _)).more h.size
        have HSA : Hid (∀ W, Below w4.heap.size w4 W → SArr W W.heap.size (some ⟨g, 0, none⟩) m 73 (cE R)) := Lib.hid fun W h => ((HX.out.sarr.less hmn).below h (Nat.le_refl _)).more h.size
        have hw5 : IntKind.i64.wrap ((m : Int) + 1) = ((m + 1 : Nat) : Int) := by rw [IntWalk.i64_in _ (by omega)]; omega
        have HTL : Hid (∀ W, (Instr.sliceAt 36 (.slice (some ⟨g, 0, none⟩) R.length c) (some (.int .i64 ((m + 1 : Nat) : Int))) none none).run Try.prog W = .ok (.slice A8 (R.length - (m + 1)) (c - (m + 1))) W) := Lib.hid fun W => by rw [hA8]; exact tailI (some ⟨g, 0, none⟩) R.length c (m + 1) hml W
        have HHD : Hid (∀ W, (Instr.sliceAt 36 (.slice (some ⟨g, 0, none⟩) R.length c) none (some (.int .i64 m)) none).run Try.prog W = .ok (.slice (some ⟨g, 0, none⟩) m c) W) := Lib.hid fun W => headI HSP.out hmn HNC.out W
        have HRX : Hid (∀ W, Below w4.heap.size w4 W → Rx W base p (.slice (some ⟨g, 0, none⟩) R.length c) R) := Lib.hid fun W h => HX.out.below h
        clear hrest hA8
        have HQ0 : Hid (Below w4.heap.size w4 w4.drew) := Lib.hid (below_drewN (Below.refl _ _) 1)
        refine wp_region_held_drew (S := fun _ : World => True) follows trivial (fun hHeld => ?_)
        obtain ⟨wq, hwq⟩ : ∃ z, z = w4.drew := ⟨_, rfl⟩
        rw [← hwq] at HQ0 ⊢
        clear hwq
        have cq := (HRX.out wq HQ0.out).at0
        have hpq := heap_lt (HRX.out wq HQ0.out).cell
        obtain ⟨g0, hg0⟩ : ∃ z, z = wq.heap.size := ⟨_, rfl⟩
        obtain ⟨w6, hw6⟩ : ∃ z, z = wq.alloc (.cells #[] 43) := ⟨_, rfl⟩
        have HQ6 : Hid (Below w4.heap.size w4 w6) := Lib.hid (by rw [hw6]; exact HQ0.out.alloc HQ0.out.size _)
        have HG0 : Hid (g0 = wq.heap.size) := Lib.hid hg0
        have HW6 : Hid (wq.alloc (.cells #[] 43) = w6) := Lib.hid hw6.symm
        have OW0 := Lib.hid (own_empty (w := w6) (base := w4.heap.size) (size := 73) (e := 43) (by rw [hw6]; exact heap_new_at _ hg0) (by rw [hg0]; exact HQ0.out.size))
        have c6 := (HRX.out w6 HQ6.out).at0
        clear hg0 hw6
        refine wpAnyH_take (i := 0) (v := ?_) (by simp only [List.getElem?_toArray, List.getElem?_cons_zero]; rfl) (by kernel_rfl) (by kernel_rfl) (by kernel_rfl) (by intro _ _ _ h; exact h) (Or.inl ⟨by rfl, ?_⟩) hHeld ?_
        rotate_left
        · (intro w hSw; (try dsimp only at hSw); go_simp; try with_reducible rfl)
        try simp only [Act.put, List.setIfInBounds_toArray, List.set_cons_zero, List.set_cons_succ]
        refine wpAnyH_take (i := 2) (v := ?_) (by simp only [List.getElem?_toArray, List.getElem?_cons_zero, List.getElem?_cons_succ]; rfl) (by kernel_rfl) (by kernel_rfl) (by kernel_rfl) (by intro _ _ _ h; exact h) (Or.inl ⟨by rfl, ?_⟩) hHeld ?_
        rotate_left
        · (intro w hSw; (try dsimp only at hSw); go_simp; try with_reducible rfl)
        try simp only [Act.put, List.setIfInBounds_toArray, List.set_cons_zero, List.set_cons_succ]
        refine wpAnyH_take (i := 3) (v := ?_) (by simp only [List.getElem?_toArray, List.getElem?_cons_zero, List.getElem?_cons_succ]; rfl) (by kernel_rfl) (by kernel_rfl) (by kernel_rfl) (by intro _ _ _ h; exact h) (Or.inl ⟨by rfl, ?_⟩) hHeld ?_
        rotate_left
        · (intro w hSw; (try dsimp only at hSw); go_simp; try with_reducible rfl)
        try simp only [Act.put, List.setIfInBounds_toArray, List.set_cons_zero, List.set_cons_succ]
        refine wpAnyH_take (i := 4) (v := ?_) (by simp only [List.getElem?_toArray, List.getElem?_cons_zero, List.getElem?_cons_succ]; rfl) (by kernel_rfl) (by kernel_rfl) (by kernel_rfl) (by intro _ _ _ h; exact h) (Or.inl ⟨by rfl, ?_⟩) hHeld ?_
        rotate_left
        · (intro w hSw; (try dsimp only at hSw); go_simp; try with_reducible rfl)
        try simp only [Act.put, List.setIfInBounds_toArray, List.set_cons_zero, List.set_cons_succ]
        refine wpAnyH_take (i := 6) (v := ?_) (by simp only [List.getElem?_toArray, List.getElem?_cons_zero, List.getElem?_cons_succ]; rfl) (by kernel_rfl) (by kernel_rfl) (by kernel_rfl) (by intro _ _ _ h; exact h) (Or.inl ⟨by rfl, ?_⟩) hHeld ?_
        rotate_left
        · (intro w hSw; (try dsimp only at hSw); go_simp; try with_reducible rfl)
        try simp only [Act.put, List.setIfInBounds_toArray, List.set_cons_zero, List.set_cons_succ]
        refine wpAnyH_take (i := 9) (v := ?_) (by simp only [List.getElem?_toArray, List.getElem?_cons_zero, List.getElem?_cons_succ]; rfl) (by kernel_rfl) (by kernel_rfl) (by kernel_rfl) (by intro _ _ _ h; exact h) (Or.inl ⟨by rfl, ?_⟩) hHeld ?_
        rotate_left
        · (intro w hSw; (try dsimp only at hSw); go_simp; try with_reducible rfl)
        try simp only [Act.put, List.setIfInBounds_toArray, List.set_cons_zero, List.set_cons_succ]
        refine wpAnyH_take (i := 10) (v := ?_) (by simp only [List.getElem?_toArray, List.getElem?_cons_zero, List.getElem?_cons_succ]; rfl) (by kernel_rfl) (by kernel_rfl) (by kernel_rfl) (by intro _ _ _ h; exact h) (Or.inl ⟨by rfl, ?_⟩) hHeld ?_
        rotate_left
        · (intro w hSw; (try dsimp only at hSw); go_simp; try with_reducible rfl)
        try simp only [Act.put, List.setIfInBounds_toArray, List.set_cons_zero, List.set_cons_succ]
        refine wpAnyH_take (i := 11) (v := ?_) (by simp only [List.getElem?_toArray, List.getElem?_cons_zero, List.getElem?_cons_succ]; rfl) (by kernel_rfl) (by kernel_rfl) (by kernel_rfl) (by intro _ _ _ h; exact h) (Or.inl ⟨by rfl, ?_⟩) hHeld ?_
        rotate_left
        · (intro w hSw; (try dsimp only at hSw); go_simp; try with_reducible rfl)
        try simp only [Act.put, List.setIfInBounds_toArray, List.set_cons_zero, List.set_cons_succ]
        refine wpAnyH_take (i := 13) (v := ?_) (by simp only [List.getElem?_toArray, List.getElem?_cons_zero, List.getElem?_cons_succ]; rfl) (by kernel_rfl) (by kernel_rfl) (by kernel_rfl) (by intro _ _ _ h; exact h) (Or.inl ⟨by rfl, ?_⟩) hHeld ?_
        rotate_left
        · (intro w hSw; (try dsimp only at hSw); go_simp; try with_reducible rfl)
        try simp only [Act.put, List.setIfInBounds_toArray, List.set_cons_zero, List.set_cons_succ]
        refine wpAnyH_take (i := 14) (v := ?_) (by simp only [List.getElem?_toArray, List.getElem?_cons_zero, List.getElem?_cons_succ]; rfl) (by kernel_rfl) (by kernel_rfl) (by kernel_rfl) (by intro _ _ _ h; exact h) (Or.inl ⟨by rfl, ?_⟩) hHeld ?_
        rotate_left
        · (intro w hSw; (try dsimp only at hSw); go_simp; try with_reducible rfl)
        try simp only [Act.put, List.setIfInBounds_toArray, List.set_cons_zero, List.set_cons_succ]
        refine wpAnyH_ready (rs := [1, 5, 12]) (by kernel_rfl) (by simp) ?_
        refine AllReadyH.cons (by simp only [List.getElem?_toArray, List.getElem?_cons_zero, List.getElem?_cons_succ]; rfl) (fun K hK => ?_) (AllReadyH.cons (by simp only [List.getElem?_toArray, List.getElem?_cons_zero, List.getElem?_cons_succ]; rfl) (fun K hK => ?_) (AllReadyH.cons (by simp only [List.getElem?_toArray, List.getElem?_cons_zero, List.getElem?_cons_succ]; rfl) (fun K hK => ?_) AllReadyH.nil))
        · rw [if_pos (by rfl)]
          go_simp
          try rw [HW6.out, ← HG0.out]
          refine hK.out _ _ trivial (fun hHeld => ?_)
          clear hK K
          try simp only [Act.put, List.setIfInBounds_toArray, List.set_cons_zero, List.set_cons_succ]
          refine wpAnyH_ready (rs := [5, 12]) (by kernel_rfl) (by simp) ?_
          refine AllReadyH.cons (by simp only [List.getElem?_toArray, List.getElem?_cons_zero, List.getElem?_cons_succ]; rfl) (fun K hK => ?_) (AllReadyH.cons (by simp only [List.getElem?_toArray, List.getElem?_cons_zero, List.getElem?_cons_succ]; rfl) (fun K hK => ?_) AllReadyH.nil)
          · rw [if_pos (by rfl)]
            go_simp
            refine hK.out _ _ trivial (fun hHeld => ?_)
            clear hK K
            try simp only [Act.put, List.setIfInBounds_toArray, List.set_cons_zero, List.set_cons_succ]
            refine wpAnyH_take (i := 7) (v := _) (by simp only [List.getElem?_toArray, List.getElem?_cons_zero, List.getElem?_cons_succ]; rfl) (by kernel_rfl) (by kernel_rfl) (by kernel_rfl) (by intro _ _ _ h; exact h) (yields_slice (by rfl) 36 (.tmp 51) none (some (.tmp 52)) rfl (.slice (some ⟨g, 0, none⟩) R.length c) rfl none (some (.int .i64 m)) rfl rfl (.slice (some ⟨g, 0, none⟩) m c) HHD.out) hHeld ?_
            try simp only [Act.put, List.setIfInBounds_toArray, List.set_cons_zero, List.set_cons_succ]
            refine wpAnyH_ready (rs := [8, 12]) (by kernel_rfl) (by simp) ?_
            refine AllReadyH.cons (by simp only [List.getElem?_toArray, List.getElem?_cons_zero, List.getElem?_cons_succ]; rfl) (fun K hK => ?_) (AllReadyH.cons (by simp only [List.getElem?_toArray, List.getElem?_cons_zero, List.getElem?_cons_succ]; rfl) (fun K hK => ?_) AllReadyH.nil)
            · rw [if_pos (by rfl)]
              refine wp_append_any (.tmp 47) (.tmp 53) 36 rfl w4.heap.size 43 i0 (.agg zIt.toArray) 73 136 Try.underlying36 HI.out.1 HI.out.2.1 HI.out.2.2.1 HI.out.2.2.2 rfl (by decide) (.slice (some ⟨g0, 0, none⟩) 0 0) 0 [] rfl OW0.out (some ⟨g, 0, none⟩) m c (flatS (cE R) m) rfl (fun h => by cases h) (flatS_len (wideE _) m) (fun ad e => (HSA.out w6 HQ6.out).cellsAt (wideE _) ad e) (onesE _ m) (by unfold maxLen; omega) (by omega) HQ6.out.size ?_
              intro v7 w7 ho7 hg7
              rw [Nat.zero_add, List.nil_append] at ho7
              have O7 := Lib.hid ho7
              have HQ7 : Hid (Below w4.heap.size w4 w7) := Lib.hid (HQ6.out.grown hg7 HQ6.out.size (fun k e => by have e2 : g0 = k := (by simpa [Value.ownBlock] using e); rw [← e2, HG0.out]; exact HQ0.out.size))
              have c7 := (HRX.out w7 HQ7.out).at0
              clear ho7 hg7
              refine hK.out _ _ trivial (fun hHeld => ?_)
              clear hK K
              try simp only [Act.put, List.setIfInBounds_toArray, List.set_cons_zero, List.set_cons_succ]
              refine wpAnyH_ready (rs := [12]) (by kernel_rfl) (by simp) ?_
              refine AllReadyH.cons (by simp only [List.getElem?_toArray, List.getElem?_cons_zero, List.getElem?_cons_succ]; rfl) (fun K hK => ?_) AllReadyH.nil
              rw [if_pos (by rfl)]
              go_simp
              refine hK.out _ _ trivial (fun hHeld => ?_)
              clear hK K
              try simp only [Act.put, List.setIfInBounds_toArray, List.set_cons_zero, List.set_cons_succ]
              refine wpAnyH_take (i := 15) (v := _) (by simp only [List.getElem?_toArray, List.getElem?_cons_zero, List.getElem?_cons_succ]; rfl) (by kernel_rfl) (by kernel_rfl) (by kernel_rfl) (by intro _ _ _ h; exact h) (yields_slice (by rfl) 36 (.tmp 58) (some (.tmp 60)) none rfl (.slice (some ⟨g, 0, none⟩) R.length c) rfl (some (.int .i64 ((m + 1 : Nat) : Int))) none rfl rfl (.slice A8 (R.length - (m + 1)) (c - (m + 1))) HTL.out) hHeld ?_
              try simp only [Act.put, List.setIfInBounds_toArray, List.set_cons_zero, List.set_cons_succ]
              refine wpAnyH_ready (rs := [16]) (by kernel_rfl) (by simp) ?_
              refine AllReadyH.cons (by simp only [List.getElem?_toArray, List.getElem?_cons_zero, List.getElem?_cons_succ]; rfl) (fun K hK => ?_) AllReadyH.nil
              rw [if_pos (by rfl)]
              refine wp_append_any (.tmp 54) (.tmp 61) 36 rfl w4.heap.size 43 i0 (.agg zIt.toArray) 73 136 Try.underlying36 HI.out.1 HI.out.2.1 HI.out.2.2.1 HI.out.2.2.2 rfl (by decide) v7 m (flatS (cE R) m) rfl O7.out A8 (R.length - (m + 1)) (c - (m + 1)) (flatS (fun i => cE R (m + 1 + i)) (R.length - (m + 1))) rfl HN8.out (flatS_len (wideE fun i => R[m + 1 + i]!) _) (fun ad e => (HS8.out w7 HQ7.out).cellsAt (wideE fun i => R[m + 1 + i]!) ad e) (onesE (fun i => R[m + 1 + i]!) _) (by unfold maxLen; omega) (by omega) HQ7.out.size ?_
              intro v8 w8 ho8 hg8
              obtain ⟨A9, c9, rfl⟩ := row_shapeS ho8
              rw [HFD.out] at ho8
              have O8 := Lib.hid ho8
              have HQ8 : Hid (Below w4.heap.size w4 w8) := Lib.hid (HQ7.out.grown hg8 HQ7.out.size (fun k hk => (row_lt O7.out hk).1))
              have HX8 := Lib.hid (HRX.out w8 HQ8.out)
              have c8 := HX8.out.at0
              have f8 := frozen_of_row w8 p 0 _ _ HX8.out.cell
              clear ho8 hg8
              refine hK.out _ _ trivial (fun hHeld => ?_)
              clear hK K
              try simp only [Act.put, List.setIfInBounds_toArray, List.set_cons_zero, List.set_cons_succ]
              refine wpAnyH_take (i := 17) (v := ?_) (by simp only [List.getElem?_toArray, List.getElem?_cons_zero, List.getElem?_cons_succ]; rfl) (by kernel_rfl) (by kernel_rfl) (by kernel_rfl) (by intro _ _ _ h; exact h) (Or.inl ⟨by rfl, ?_⟩) hHeld ?_
              rotate_left
              · (intro w hSw; (try dsimp only at hSw); go_simp; try with_reducible rfl)
              try simp only [Act.put, List.setIfInBounds_toArray, List.set_cons_zero, List.set_cons_succ]
              refine wpAnyH_take (i := 18) (v := ?_) (by simp only [List.getElem?_toArray, List.getElem?_cons_zero, List.getElem?_cons_succ]; rfl) (by kernel_rfl) (by kernel_rfl) (by kernel_rfl) (by intro _ _ _ h; exact h) (Or.inl ⟨by rfl, ?_⟩) hHeld ?_
              rotate_left
              · (intro w hSw; (try dsimp only at hSw); go_simp; try with_reducible rfl)
              try simp only [Act.put, List.setIfInBounds_toArray, List.set_cons_zero, List.set_cons_succ]
              refine wpAnyH_ready (rs := [19]) (by kernel_rfl) (by simp) ?_
              refine AllReadyH.cons (by simp only [List.getElem?_toArray, List.getElem?_cons_zero, List.getElem?_cons_succ]; rfl) (fun K hK => ?_) AllReadyH.nil
              rw [if_pos (by rfl)]
              go_simp
              refine hK.out _ _ trivial (fun hHeld => ?_)
              clear hK K
              try simp only [Act.put, List.setIfInBounds_toArray, List.set_cons_zero, List.set_cons_succ]
              refine wpAnyH_done (by kernel_rfl) ?_ _
              clear hHeld
              have hdl := HDL.out
              have hlen : m + (R.length - (m + 1)) = (delR k R).length := by omega
              go_wp2_with fail
              go_ret
              refine ⟨by rw [HE.out.1]; rfl, ?_⟩
              rw [HE.out.2]
              have O9 := O8.out
              rw [hlen] at O9 ⊢
              exact ⟨⟨_, rx_store HX8.out O9 (Nat.le_trans HBS.out BP.out.size) (rise_del HR.out)⟩, Keeps.from (BP.out.trans (HQ8.out.mono BP.out.size)) (Keeps.setCell _ _ ⟨p, 0, none⟩ _ rfl)⟩
            · rw [if_pos (by rfl)]
              go_simp
              refine hK.out _ _ trivial (fun hHeld => ?_)
              clear hK K
              try simp only [Act.put, List.setIfInBounds_toArray, List.set_cons_zero, List.set_cons_succ]
              refine wpAnyH_take (i := 15) (v := _) (by simp only [List.getElem?_toArray, List.getElem?_cons_zero, List.getElem?_cons_succ]; rfl) (by kernel_rfl) (by kernel_rfl) (by kernel_rfl) (by intro _ _ _ h; exact h) (yields_slice (by rfl) 36 (.tmp 58) (some (.tmp 60)) none rfl (.slice (some ⟨g, 0, none⟩) R.length c) rfl (some (.int .i64 ((m + 1 : Nat) : Int))) none rfl rfl (.slice A8 (R.length - (m + 1)) (c - (m + 1))) HTL.out) hHeld ?_
              try simp only [Act.put, List.setIfInBounds_toArray, List.set_cons_zero, List.set_cons_succ]
              refine wpAnyH_ready (rs := [8]) (by kernel_rfl) (by simp) ?_
              refine AllReadyH.cons (by simp only [List.getElem?_toArray, List.getElem?_cons_zero, List.getElem?_cons_succ]; rfl) (fun K hK => ?_) AllReadyH.nil
              rw [if_pos (by rfl)]
              refine wp_append_any (.tmp 47) (.tmp 53) 36 rfl w4.heap.size 43 i0 (.agg zIt.toArray) 73 136 Try.underlying36 HI.out.1 HI.out.2.1 HI.out.2.2.1 HI.out.2.2.2 rfl (by decide) (.slice (some ⟨g0, 0, none⟩) 0 0) 0 [] rfl OW0.out (some ⟨g, 0, none⟩) m c (flatS (cE R) m) rfl (fun h => by cases h) (flatS_len (wideE _) m) (fun ad e => (HSA.out w6 HQ6.out).cellsAt (wideE _) ad e) (onesE _ m) (by unfold maxLen; omega) (by omega) HQ6.out.size ?_
              intro v7 w7 ho7 hg7
              rw [Nat.zero_add, List.nil_append] at ho7
              have O7 := Lib.hid ho7
              have HQ7 : Hid (Below w4.heap.size w4 w7) := Lib.hid (HQ6.out.grown hg7 HQ6.out.size (fun k e => by have e2 : g0 = k := (by simpa [Value.ownBlock] using e); rw [← e2, HG0.out]; exact HQ0.out.size))
              have c7 := (HRX.out w7 HQ7.out).at0
              clear ho7 hg7
              refine hK.out _ _ trivial (fun hHeld => ?_)
              clear hK K
              try simp only [Act.put, List.setIfInBounds_toArray, List.set_cons_zero, List.set_cons_succ]
              refine wpAnyH_ready (rs := [16]) (by kernel_rfl) (by simp) ?_
              refine AllReadyH.cons (by simp only [List.getElem?_toArray, List.getElem?_cons_zero, List.getElem?_cons_succ]; rfl) (fun K hK => ?_) AllReadyH.nil
              rw [if_pos (by rfl)]
              refine wp_append_any (.tmp 54) (.tmp 61) 36 rfl w4.heap.size 43 i0 (.agg zIt.toArray) 73 136 Try.underlying36 HI.out.1 HI.out.2.1 HI.out.2.2.1 HI.out.2.2.2 rfl (by decide) v7 m (flatS (cE R) m) rfl O7.out A8 (R.length - (m + 1)) (c - (m + 1)) (flatS (fun i => cE R (m + 1 + i)) (R.length - (m + 1))) rfl HN8.out (flatS_len (wideE fun i => R[m + 1 + i]!) _) (fun ad e => (HS8.out w7 HQ7.out).cellsAt (wideE fun i => R[m + 1 + i]!) ad e) (onesE (fun i => R[m + 1 + i]!) _) (by unfold maxLen; omega) (by omega) HQ7.out.size ?_
              intro v8 w8 ho8 hg8
              obtain ⟨A9, c9, rfl⟩ := row_shapeS ho8
              rw [HFD.out] at ho8
              have O8 := Lib.hid ho8
              have HQ8 : Hid (Below w4.heap.size w4 w8) := Lib.hid (HQ7.out.grown hg8 HQ7.out.size (fun k hk => (row_lt O7.out hk).1))
              have HX8 := Lib.hid (HRX.out w8 HQ8.out)
              have c8 := HX8.out.at0
              have f8 := frozen_of_row w8 p 0 _ _ HX8.out.cell
              clear ho8 hg8
              refine hK.out _ _ trivial (fun hHeld => ?_)
              clear hK K
              try simp only [Act.put, List.setIfInBounds_toArray, List.set_cons_zero, List.set_cons_succ]
              refine wpAnyH_take (i := 17) (v := ?_) (by simp only [List.getElem?_toArray, List.getElem?_cons_zero, List.getElem?_cons_succ]; rfl) (by kernel_rfl) (by kernel_rfl) (by kernel_rfl) (by intro _ _ _ h; exact h) (Or.inl ⟨by rfl, ?_⟩) hHeld ?_
              rotate_left
              · (intro w hSw; (try dsimp only at hSw); go_simp; try with_reducible rfl)
              try simp only [Act.put, List.setIfInBounds_toArray, List.set_cons_zero, List.set_cons_succ]
              refine wpAnyH_take (i := 18) (v := ?_) (by simp only [List.getElem?_toArray, List.getElem?_cons_zero, List.getElem?_cons_succ]; rfl) (by kernel_rfl) (by kernel_rfl) (by kernel_rfl) (by intro _ _ _ h; exact h) (Or.inl ⟨by rfl, ?_⟩) hHeld ?_
              rotate_left
              · (intro w hSw; (try dsimp only at hSw); go_simp; try with_reducible rfl)
              try simp only [Act.put, List.setIfInBounds_toArray, List.set_cons_zero, List.set_cons_succ]
              refine wpAnyH_ready (rs := [19]) (by kernel_rfl) (by simp) ?_
              refine AllReadyH.cons (by simp only [List.getElem?_toArray, List.getElem?_cons_zero, List.getElem?_cons_succ]; rfl) (fun K hK => ?_) AllReadyH.nil
              rw [if_pos (by rfl)]
              go_simp
              refine hK.out _ _ trivial (fun hHeld => ?_)
              clear hK K
              try simp only [Act.put, List.setIfInBounds_toArray, List.set_cons_zero, List.set_cons_succ]
              refine wpAnyH_done (by kernel_rfl) ?_ _
              clear hHeld
              have hdl := HDL.out
              have hlen : m + (R.length - (m + 1)) = (delR k R).length := by omega
              go_wp2_with fail
              go_ret
              refine ⟨by rw [HE.out.1]; rfl, ?_⟩
              rw [HE.out.2]
              have O9 := O8.out
              rw [hlen] at O9 ⊢
              exact ⟨⟨_, rx_store HX8.out O9 (Nat.le_trans HBS.out BP.out.size) (rise_del HR.out)⟩, Keeps.from (BP.out.trans (HQ8.out.mono BP.out.size)) (Keeps.setCell _ _ ⟨p, 0, none⟩ _ rfl)⟩
          · rw [if_pos (by rfl)]
            go_simp
            refine hK.out _ _ trivial (fun hHeld => ?_)
            clear hK K
            try simp only [Act.put, List.setIfInBounds_toArray, List.set_cons_zero, List.set_cons_succ]
            refine wpAnyH_take (i := 15) (v := _) (by simp only [List.getElem?_toArray, List.getElem?_cons_zero, List.getElem?_cons_succ]; rfl) (by kernel_rfl) (by kernel_rfl) (by kernel_rfl) (by intro _ _ _ h; exact h) (yields_slice (by rfl) 36 (.tmp 58) (some (.tmp 60)) none rfl (.slice (some ⟨g, 0, none⟩) R.length c) rfl (some (.int .i64 ((m + 1 : Nat) : Int))) none rfl rfl (.slice A8 (R.length - (m + 1)) (c - (m + 1))) HTL.out) hHeld ?_
            try simp only [Act.put, List.setIfInBounds_toArray, List.set_cons_zero, List.set_cons_succ]
            refine wpAnyH_ready (rs := [5]) (by kernel_rfl) (by simp) ?_
            refine AllReadyH.cons (by simp only [List.getElem?_toArray, List.getElem?_cons_zero, List.getElem?_cons_succ]; rfl) (fun K hK => ?_) AllReadyH.nil
            rw [if_pos (by rfl)]
            go_simp
            refine hK.out _ _ trivial (fun hHeld => ?_)
            clear hK K
            try simp only [Act.put, List.setIfInBounds_toArray, List.set_cons_zero, List.set_cons_succ]
            refine wpAnyH_take (i := 7) (v := _) (by simp only [List.getElem?_toArray, List.getElem?_cons_zero, List.getElem?_cons_succ]; rfl) (by kernel_rfl) (by kernel_rfl) (by kernel_rfl) (by intro _ _ _ h; exact h) (yields_slice (by rfl) 36 (.tmp 51) none (some (.tmp 52)) rfl (.slice (some ⟨g, 0, none⟩) R.length c) rfl none (some (.int .i64 m)) rfl rfl (.slice (some ⟨g, 0, none⟩) m c) HHD.out) hHeld ?_
            try simp only [Act.put, List.setIfInBounds_toArray, List.set_cons_zero, List.set_cons_succ]
            refine wpAnyH_ready (rs := [8]) (by kernel_rfl) (by simp) ?_
            refine AllReadyH.cons (by simp only [List.getElem?_toArray, List.getElem?_cons_zero, List.getElem?_cons_succ]; rfl) (fun K hK => ?_) AllReadyH.nil
            rw [if_pos (by rfl)]
            refine wp_append_any (.tmp 47) (.tmp 53) 36 rfl w4.heap.size 43 i0 (.agg zIt.toArray) 73 136 Try.underlying36 HI.out.1 HI.out.2.1 HI.out.2.2.1 HI.out.2.2.2 rfl (by decide) (.slice (some ⟨g0, 0, none⟩) 0 0) 0 [] rfl OW0.out (some ⟨g, 0, none⟩) m c (flatS (cE R) m) rfl (fun h => by cases h) (flatS_len (wideE _) m) (fun ad e => (HSA.out w6 HQ6.out).cellsAt (wideE _) ad e) (onesE _ m) (by unfold maxLen; omega) (by omega) HQ6.out.size ?_
            intro v7 w7 ho7 hg7
            rw [Nat.zero_add, List.nil_append] at ho7
            have O7 := Lib.hid ho7
            have HQ7 : Hid (Below w4.heap.size w4 w7) := Lib.hid (HQ6.out.grown hg7 HQ6.out.size (fun k e => by have e2 : g0 = k := (by simpa [Value.ownBlock] using e); rw [← e2, HG0.out]; exact HQ0.out.size))
            have c7 := (HRX.out w7 HQ7.out).at0
            clear ho7 hg7
            refine hK.out _ _ trivial (fun hHeld => ?_)
            clear hK K
            try simp only [Act.put, List.setIfInBounds_toArray, List.set_cons_zero, List.set_cons_succ]
            refine wpAnyH_ready (rs := [16]) (by kernel_rfl) (by simp) ?_
            refine AllReadyH.cons (by simp only [List.getElem?_toArray, List.getElem?_cons_zero, List.getElem?_cons_succ]; rfl) (fun K hK => ?_) AllReadyH.nil
            rw [if_pos (by rfl)]
            refine wp_append_any (.tmp 54) (.tmp 61) 36 rfl w4.heap.size 43 i0 (.agg zIt.toArray) 73 136 Try.underlying36 HI.out.1 HI.out.2.1 HI.out.2.2.1 HI.out.2.2.2 rfl (by decide) v7 m (flatS (cE R) m) rfl O7.out A8 (R.length - (m + 1)) (c - (m + 1)) (flatS (fun i => cE R (m + 1 + i)) (R.length - (m + 1))) rfl HN8.out (flatS_len (wideE fun i => R[m + 1 + i]!) _) (fun ad e => (HS8.out w7 HQ7.out).cellsAt (wideE fun i => R[m + 1 + i]!) ad e) (onesE (fun i => R[m + 1 + i]!) _) (by unfold maxLen; omega) (by omega) HQ7.out.size ?_
            intro v8 w8 ho8 hg8
            obtain ⟨A9, c9, rfl⟩ := row_shapeS ho8
            rw [HFD.out] at ho8
            have O8 := Lib.hid ho8
            have HQ8 : Hid (Below w4.heap.size w4 w8) := Lib.hid (HQ7.out.grown hg8 HQ7.out.size (fun k hk => (row_lt O7.out hk).1))
            have HX8 := Lib.hid (HRX.out w8 HQ8.out)
            have c8 := HX8.out.at0
            have f8 := frozen_of_row w8 p 0 _ _ HX8.out.cell
            clear ho8 hg8
            refine hK.out _ _ trivial (fun hHeld => ?_)
            clear hK K
            try simp only [Act.put, List.setIfInBounds_toArray, List.set_cons_zero, List.set_cons_succ]
            refine wpAnyH_take (i := 17) (v := ?_) (by simp only [List.getElem?_toArray, List.getElem?_cons_zero, List.getElem?_cons_succ]; rfl) (by kernel_rfl) (by kernel_rfl) (by kernel_rfl) (by intro _ _ _ h; exact h) (Or.inl ⟨by rfl, ?_⟩) hHeld ?_
            rotate_left
            · (intro w hSw; (try dsimp only at hSw); go_simp; try with_reducible rfl)
            try simp only [Act.put, List.setIfInBounds_toArray, List.set_cons_zero, List.set_cons_succ]
            refine wpAnyH_take (i := 18) (v := ?_) (by simp only [List.getElem?_toArray, List.getElem?_cons_zero, List.getElem?_cons_succ]; rfl) (by kernel_rfl) (by kernel_rfl) (by kernel_rfl) (by intro _ _ _ h; exact h) (Or.inl ⟨by rfl, ?_⟩) hHeld ?_
            rotate_left
            · (intro w hSw; (try dsimp only at hSw); go_simp; try with_reducible rfl)
            try simp only [Act.put, List.setIfInBounds_toArray, List.set_cons_zero, List.set_cons_succ]
            refine wpAnyH_ready (rs := [19]) (by kernel_rfl) (by simp) ?_
            refine AllReadyH.cons (by simp only [List.getElem?_toArray, List.getElem?_cons_zero, List.getElem?_cons_succ]; rfl) (fun K hK => ?_) AllReadyH.nil
            rw [if_pos (by rfl)]
            go_simp
            refine hK.out _ _ trivial (fun hHeld => ?_)
            clear hK K
            try simp only [Act.put, List.setIfInBounds_toArray, List.set_cons_zero, List.set_cons_succ]
            refine wpAnyH_done (by kernel_rfl) ?_ _
            clear hHeld
            have hdl := HDL.out
            have hlen : m + (R.length - (m + 1)) = (delR k R).length := by omega
            go_wp2_with fail
            go_ret
            refine ⟨by rw [HE.out.1]; rfl, ?_⟩
            rw [HE.out.2]
            have O9 := O8.out
            rw [hlen] at O9 ⊢
            exact ⟨⟨_, rx_store HX8.out O9 (Nat.le_trans HBS.out BP.out.size) (rise_del HR.out)⟩, Keeps.from (BP.out.trans (HQ8.out.mono BP.out.size)) (Keeps.setCell _ _ ⟨p, 0, none⟩ _ rfl)⟩
        · rw [if_pos (by rfl)]
          go_simp
          refine hK.out _ _ trivial (fun hHeld => ?_)
          clear hK K
          try simp only [Act.put, List.setIfInBounds_toArray, List.set_cons_zero, List.set_cons_succ]
          refine wpAnyH_take (i := 7) (v := _) (by simp only [List.getElem?_toArray, List.getElem?_cons_zero, List.getElem?_cons_succ]; rfl) (by kernel_rfl) (by kernel_rfl) (by kernel_rfl) (by intro _ _ _ h; exact h) (yields_slice (by rfl) 36 (.tmp 51) none (some (.tmp 52)) rfl (.slice (some ⟨g, 0, none⟩) R.length c) rfl none (some (.int .i64 m)) rfl rfl (.slice (some ⟨g, 0, none⟩) m c) HHD.out) hHeld ?_
          try simp only [Act.put, List.setIfInBounds_toArray, List.set_cons_zero, List.set_cons_succ]
          refine wpAnyH_ready (rs := [1, 12]) (by kernel_rfl) (by simp) ?_
          refine AllReadyH.cons (by simp only [List.getElem?_toArray, List.getElem?_cons_zero, List.getElem?_cons_succ]; rfl) (fun K hK => ?_) (AllReadyH.cons (by simp only [List.getElem?_toArray, List.getElem?_cons_zero, List.getElem?_cons_succ]; rfl) (fun K hK => ?_) AllReadyH.nil)
          · rw [if_pos (by rfl)]
            go_simp
            try rw [HW6.out, ← HG0.out]
            refine hK.out _ _ trivial (fun hHeld => ?_)
            clear hK K
            try simp only [Act.put, List.setIfInBounds_toArray, List.set_cons_zero, List.set_cons_succ]
            refine wpAnyH_ready (rs := [8, 12]) (by kernel_rfl) (by simp) ?_
            refine AllReadyH.cons (by simp only [List.getElem?_toArray, List.getElem?_cons_zero, List.getElem?_cons_succ]; rfl) (fun K hK => ?_) (AllReadyH.cons (by simp only [List.getElem?_toArray, List.getElem?_cons_zero, List.getElem?_cons_succ]; rfl) (fun K hK => ?_) AllReadyH.nil)
            · rw [if_pos (by rfl)]
              refine wp_append_any (.tmp 47) (.tmp 53) 36 rfl w4.heap.size 43 i0 (.agg zIt.toArray) 73 136 Try.underlying36 HI.out.1 HI.out.2.1 HI.out.2.2.1 HI.out.2.2.2 rfl (by decide) (.slice (some ⟨g0, 0, none⟩) 0 0) 0 [] rfl OW0.out (some ⟨g, 0, none⟩) m c (flatS (cE R) m) rfl (fun h => by cases h) (flatS_len (wideE _) m) (fun ad e => (HSA.out w6 HQ6.out).cellsAt (wideE _) ad e) (onesE _ m) (by unfold maxLen; omega) (by omega) HQ6.out.size ?_
              intro v7 w7 ho7 hg7
              rw [Nat.zero_add, List.nil_append] at ho7
              have O7 := Lib.hid ho7
              have HQ7 : Hid (Below w4.heap.size w4 w7) := Lib.hid (HQ6.out.grown hg7 HQ6.out.size (fun k e => by have e2 : g0 = k := (by simpa [Value.ownBlock] using e); rw [← e2, HG0.out]; exact HQ0.out.size))
              have c7 := (HRX.out w7 HQ7.out).at0
              clear ho7 hg7
              refine hK.out _ _ trivial (fun hHeld => ?_)
              clear hK K
              try simp only [Act.put, List.setIfInBounds_toArray, List.set_cons_zero, List.set_cons_succ]
              refine wpAnyH_ready (rs := [12]) (by kernel_rfl) (by simp) ?_
              refine AllReadyH.cons (by simp only [List.getElem?_toArray, List.getElem?_cons_zero, List.getElem?_cons_succ]; rfl) (fun K hK => ?_) AllReadyH.nil
              rw [if_pos (by rfl)]
              go_simp
              refine hK.out _ _ trivial (fun hHeld => ?_)
              clear hK K
              try simp only [Act.put, List.setIfInBounds_toArray, List.set_cons_zero, List.set_cons_succ]
              refine wpAnyH_take (i := 15) (v := _) (by simp only [List.getElem?_toArray, List.getElem?_cons_zero, List.getElem?_cons_succ]; rfl) (by kernel_rfl) (by kernel_rfl) (by kernel_rfl) (by intro _ _ _ h; exact h) (yields_slice (by rfl) 36 (.tmp 58) (some (.tmp 60)) none rfl (.slice (some ⟨g, 0, none⟩) R.length c) rfl (some (.int .i64 ((m + 1 : Nat) : Int))) none rfl rfl (.slice A8 (R.length - (m + 1)) (c - (m + 1))) HTL.out) hHeld ?_
              try simp only [Act.put, List.setIfInBounds_toArray, List.set_cons_zero, List.set_cons_succ]
              refine wpAnyH_ready (rs := [16]) (by kernel_rfl) (by simp) ?_
              refine AllReadyH.cons (by simp only [List.getElem?_toArray, List.getElem?_cons_zero, List.getElem?_cons_succ]; rfl) (fun K hK => ?_) AllReadyH.nil
              rw [if_pos (by rfl)]
              refine wp_append_any (.tmp 54) (.tmp 61) 36 rfl w4.heap.size 43 i0 (.agg zIt.toArray) 73 136 Try.underlying36 HI.out.1 HI.out.2.1 HI.out.2.2.1 HI.out.2.2.2 rfl (by decide) v7 m (flatS (cE R) m) rfl O7.out A8 (R.length - (m + 1)) (c - (m + 1)) (flatS (fun i => cE R (m + 1 + i)) (R.length - (m + 1))) rfl HN8.out (flatS_len (wideE fun i => R[m + 1 + i]!) _) (fun ad e => (HS8.out w7 HQ7.out).cellsAt (wideE fun i => R[m + 1 + i]!) ad e) (onesE (fun i => R[m + 1 + i]!) _) (by unfold maxLen; omega) (by omega) HQ7.out.size ?_
              intro v8 w8 ho8 hg8
              obtain ⟨A9, c9, rfl⟩ := row_shapeS ho8
              rw [HFD.out] at ho8
              have O8 := Lib.hid ho8
              have HQ8 : Hid (Below w4.heap.size w4 w8) := Lib.hid (HQ7.out.grown hg8 HQ7.out.size (fun k hk => (row_lt O7.out hk).1))
              have HX8 := Lib.hid (HRX.out w8 HQ8.out)
              have c8 := HX8.out.at0
              have f8 := frozen_of_row w8 p 0 _ _ HX8.out.cell
              clear ho8 hg8
              refine hK.out _ _ trivial (fun hHeld => ?_)
              clear hK K
              try simp only [Act.put, List.setIfInBounds_toArray, List.set_cons_zero, List.set_cons_succ]
              refine wpAnyH_take (i := 17) (v := ?_) (by simp only [List.getElem?_toArray, List.getElem?_cons_zero, List.getElem?_cons_succ]; rfl) (by kernel_rfl) (by kernel_rfl) (by kernel_rfl) (by intro _ _ _ h; exact h) (Or.inl ⟨by rfl, ?_⟩) hHeld ?_
              rotate_left
              · (intro w hSw; (try dsimp only at hSw); go_simp; try with_reducible rfl)
              try simp only [Act.put, List.setIfInBounds_toArray, List.set_cons_zero, List.set_cons_succ]
              refine wpAnyH_take (i := 18) (v := ?_) (by simp only [List.getElem?_toArray, List.getElem?_cons_zero, List.getElem?_cons_succ]; rfl) (by kernel_rfl) (by kernel_rfl) (by kernel_rfl) (by intro _ _ _ h; exact h) (Or.inl ⟨by rfl, ?_⟩) hHeld ?_
              rotate_left
              · (intro w hSw; (try dsimp only at hSw); go_simp; try with_reducible rfl)
              try simp only [Act.put, List.setIfInBounds_toArray, List.set_cons_zero, List.set_cons_succ]
              refine wpAnyH_ready (rs := [19]) (by kernel_rfl) (by simp) ?_
              refine AllReadyH.cons (by simp only [List.getElem?_toArray, List.getElem?_cons_zero, List.getElem?_cons_succ]; rfl) (fun K hK => ?_) AllReadyH.nil
              rw [if_pos (by rfl)]
              go_simp
              refine hK.out _ _ trivial (fun hHeld => ?_)
              clear hK K
              try simp only [Act.put, List.setIfInBounds_toArray, List.set_cons_zero, List.set_cons_succ]
              refine wpAnyH_done (by kernel_rfl) ?_ _
              clear hHeld
              have hdl := HDL.out
              have hlen : m + (R.length - (m + 1)) = (delR k R).length := by omega
              go_wp2_with fail
              go_ret
              refine ⟨by rw [HE.out.1]; rfl, ?_⟩
              rw [HE.out.2]
              have O9 := O8.out
              rw [hlen] at O9 ⊢
              exact ⟨⟨_, rx_store HX8.out O9 (Nat.le_trans HBS.out BP.out.size) (rise_del HR.out)⟩, Keeps.from (BP.out.trans (HQ8.out.mono BP.out.size)) (Keeps.setCell _ _ ⟨p, 0, none⟩ _ rfl)⟩
            · rw [if_pos (by rfl)]
              go_simp
              refine hK.out _ _ trivial (fun hHeld => ?_)
              clear hK K
              try simp only [Act.put, List.setIfInBounds_toArray, List.set_cons_zero, List.set_cons_succ]
              refine wpAnyH_take (i := 15) (v := _) (by simp only [List.getElem?_toArray, List.getElem?_cons_zero, List.getElem?_cons_succ]; rfl) (by kernel_rfl) (by kernel_rfl) (by kernel_rfl) (by intro _ _ _ h; exact h) (yields_slice (by rfl) 36 (.tmp 58) (some (.tmp 60)) none rfl (.slice (some ⟨g, 0, none⟩) R.length c) rfl (some (.int .i64 ((m + 1 : Nat) : Int))) none rfl rfl (.slice A8 (R.length - (m + 1)) (c - (m + 1))) HTL.out) hHeld ?_
              try simp only [Act.put, List.setIfInBounds_toArray, List.set_cons_zero, List.set_cons_succ]
              refine wpAnyH_ready (rs := [8]) (by kernel_rfl) (by simp) ?_
              refine AllReadyH.cons (by simp only [List.getElem?_toArray, List.getElem?_cons_zero, List.getElem?_cons_succ]; rfl) (fun K hK => ?_) AllReadyH.nil
              rw [if_pos (by rfl)]
              refine wp_append_any (.tmp 47) (.tmp 53) 36 rfl w4.heap.size 43 i0 (.agg zIt.toArray) 73 136 Try.underlying36 HI.out.1 HI.out.2.1 HI.out.2.2.1 HI.out.2.2.2 rfl (by decide) (.slice (some ⟨g0, 0, none⟩) 0 0) 0 [] rfl OW0.out (some ⟨g, 0, none⟩) m c (flatS (cE R) m) rfl (fun h => by cases h) (flatS_len (wideE _) m) (fun ad e => (HSA.out w6 HQ6.out).cellsAt (wideE _) ad e) (onesE _ m) (by unfold maxLen; omega) (by omega) HQ6.out.size ?_
              intro v7 w7 ho7 hg7
              rw [Nat.zero_add, List.nil_append] at ho7
              have O7 := Lib.hid ho7
              have HQ7 : Hid (Below w4.heap.size w4 w7) := Lib.hid (HQ6.out.grown hg7 HQ6.out.size (fun k e => by have e2 : g0 = k := (by simpa [Value.ownBlock] using e); rw [← e2, HG0.out]; exact HQ0.out.size))
              have c7 := (HRX.out w7 HQ7.out).at0
              clear ho7 hg7
              refine hK.out _ _ trivial (fun hHeld => ?_)
              clear hK K
              try simp only [Act.put, List.setIfInBounds_toArray, List.set_cons_zero, List.set_cons_succ]
              refine wpAnyH_ready (rs := [16]) (by kernel_rfl) (by simp) ?_
              refine AllReadyH.cons (by simp only [List.getElem?_toArray, List.getElem?_cons_zero, List.getElem?_cons_succ]; rfl) (fun K hK => ?_) AllReadyH.nil
              rw [if_pos (by rfl)]
              refine wp_append_any (.tmp 54) (.tmp 61) 36 rfl w4.heap.size 43 i0 (.agg zIt.toArray) 73 136 Try.underlying36 HI.out.1 HI.out.2.1 HI.out.2.2.1 HI.out.2.2.2 rfl (by decide) v7 m (flatS (cE R) m) rfl O7.out A8 (R.length - (m + 1)) (c - (m + 1)) (flatS (fun i => cE R (m + 1 + i)) (R.length - (m + 1))) rfl HN8.out (flatS_len (wideE fun i => R[m + 1 + i]!) _) (fun ad e => (HS8.out w7 HQ7.out).cellsAt (wideE fun i => R[m + 1 + i]!) ad e) (onesE (fun i => R[m + 1 + i]!) _) (by unfold maxLen; omega) (by omega) HQ7.out.size ?_
              intro v8 w8 ho8 hg8
              obtain ⟨A9, c9, rfl⟩ := row_shapeS ho8
              rw [HFD.out] at ho8
              have O8 := Lib.hid ho8
              have HQ8 : Hid (Below w4.heap.size w4 w8) := Lib.hid (HQ7.out.grown hg8 HQ7.out.size (fun k hk => (row_lt O7.out hk).1))
              have HX8 := Lib.hid (HRX.out w8 HQ8.out)
              have c8 := HX8.out.at0
              have f8 := frozen_of_row w8 p 0 _ _ HX8.out.cell
              clear ho8 hg8
              refine hK.out _ _ trivial (fun hHeld => ?_)
              clear hK K
              try simp only [Act.put, List.setIfInBounds_toArray, List.set_cons_zero, List.set_cons_succ]
              refine wpAnyH_take (i := 17) (v := ?_) (by simp only [List.getElem?_toArray, List.getElem?_cons_zero, List.getElem?_cons_succ]; rfl) (by kernel_rfl) (by kernel_rfl) (by kernel_rfl) (by intro _ _ _ h; exact h) (Or.inl ⟨by rfl, ?_⟩) hHeld ?_
              rotate_left
              · (intro w hSw; (try dsimp only at hSw); go_simp; try with_reducible rfl)
              try simp only [Act.put, List.setIfInBounds_toArray, List.set_cons_zero, List.set_cons_succ]
              refine wpAnyH_take (i := 18) (v := ?_) (by simp only [List.getElem?_toArray, List.getElem?_cons_zero, List.getElem?_cons_succ]; rfl) (by kernel_rfl) (by kernel_rfl) (by kernel_rfl) (by intro _ _ _ h; exact h) (Or.inl ⟨by rfl, ?_⟩) hHeld ?_
              rotate_left
              · (intro w hSw; (try dsimp only at hSw); go_simp; try with_reducible rfl)
              try simp only [Act.put, List.setIfInBounds_toArray, List.set_cons_zero, List.set_cons_succ]
              refine wpAnyH_ready (rs := [19]) (by kernel_rfl) (by simp) ?_
              refine AllReadyH.cons (by simp only [List.getElem?_toArray, List.getElem?_cons_zero, List.getElem?_cons_succ]; rfl) (fun K hK => ?_) AllReadyH.nil
              rw [if_pos (by rfl)]
              go_simp
              refine hK.out _ _ trivial (fun hHeld => ?_)
              clear hK K
              try simp only [Act.put, List.setIfInBounds_toArray, List.set_cons_zero, List.set_cons_succ]
              refine wpAnyH_done (by kernel_rfl) ?_ _
              clear hHeld
              have hdl := HDL.out
              have hlen : m + (R.length - (m + 1)) = (delR k R).length := by omega
              go_wp2_with fail
              go_ret
              refine ⟨by rw [HE.out.1]; rfl, ?_⟩
              rw [HE.out.2]
              have O9 := O8.out
              rw [hlen] at O9 ⊢
              exact ⟨⟨_, rx_store HX8.out O9 (Nat.le_trans HBS.out BP.out.size) (rise_del HR.out)⟩, Keeps.from (BP.out.trans (HQ8.out.mono BP.out.size)) (Keeps.setCell _ _ ⟨p, 0, none⟩ _ rfl)⟩
          · rw [if_pos (by rfl)]
            go_simp
            refine hK.out _ _ trivial (fun hHeld => ?_)
            clear hK K
            try simp only [Act.put, List.setIfInBounds_toArray, List.set_cons_zero, List.set_cons_succ]
            refine wpAnyH_take (i := 15) (v := _) (by simp only [List.getElem?_toArray, List.getElem?_cons_zero, List.getElem?_cons_succ]; rfl) (by kernel_rfl) (by kernel_rfl) (by kernel_rfl) (by intro _ _ _ h; exact h) (yields_slice (by rfl) 36 (.tmp 58) (some (.tmp 60)) none rfl (.slice (some ⟨g, 0, none⟩) R.length c) rfl (some (.int .i64 ((m + 1 : Nat) : Int))) none rfl rfl (.slice A8 (R.length - (m + 1)) (c - (m + 1))) HTL.out) hHeld ?_
            try simp only [Act.put, List.setIfInBounds_toArray, List.set_cons_zero, List.set_cons_succ]
            refine wpAnyH_ready (rs := [1]) (by kernel_rfl) (by simp) ?_
            refine AllReadyH.cons (by simp only [List.getElem?_toArray, List.getElem?_cons_zero, List.getElem?_cons_succ]; rfl) (fun K hK => ?_) AllReadyH.nil
            rw [if_pos (by rfl)]
            go_simp
            try rw [HW6.out, ← HG0.out]
            refine hK.out _ _ trivial (fun hHeld => ?_)
            clear hK K
            try simp only [Act.put, List.setIfInBounds_toArray, List.set_cons_zero, List.set_cons_succ]
            refine wpAnyH_ready (rs := [8]) (by kernel_rfl) (by simp) ?_
            refine AllReadyH.cons (by simp only [List.getElem?_toArray, List.getElem?_cons_zero, List.getElem?_cons_succ]; rfl) (fun K hK => ?_) AllReadyH.nil
            rw [if_pos (by rfl)]
            refine wp_append_any (.tmp 47) (.tmp 53) 36 rfl w4.heap.size 43 i0 (.agg zIt.toArray) 73 136 Try.underlying36 HI.out.1 HI.out.2.1 HI.out.2.2.1 HI.out.2.2.2 rfl (by decide) (.slice (some ⟨g0, 0, none⟩) 0 0) 0 [] rfl OW0.out (some ⟨g, 0, none⟩) m c (flatS (cE R) m) rfl (fun h => by cases h) (flatS_len (wideE _) m) (fun ad e => (HSA.out w6 HQ6.out).cellsAt (wideE _) ad e) (onesE _ m) (by unfold maxLen; omega) (by omega) HQ6.out.size ?_
            intro v7 w7 ho7 hg7
            rw [Nat.zero_add, List.nil_append] at ho7
            have O7 := Lib.hid ho7
            have HQ7 : Hid (Below w4.heap.size w4 w7) := Lib.hid (HQ6.out.grown hg7 HQ6.out.size (fun k e => by have e2 : g0 = k := (by simpa [Value.ownBlock] using e); rw [← e2, HG0.out]; exact HQ0.out.size))
            have c7 := (HRX.out w7 HQ7.out).at0
            clear ho7 hg7
            refine hK.out _ _ trivial (fun hHeld => ?_)
            clear hK K
            try simp only [Act.put, List.setIfInBounds_toArray, List.set_cons_zero, List.set_cons_succ]
            refine wpAnyH_ready (rs := [16]) (by kernel_rfl) (by simp) ?_
            refine AllReadyH.cons (by simp only [List.getElem?_toArray, List.getElem?_cons_zero, List.getElem?_cons_succ]; rfl) (fun K hK => ?_) AllReadyH.nil
            rw [if_pos (by rfl)]
            refine wp_append_any (.tmp 54) (.tmp 61) 36 rfl w4.heap.size 43 i0 (.agg zIt.toArray) 73 136 Try.underlying36 HI.out.1 HI.out.2.1 HI.out.2.2.1 HI.out.2.2.2 rfl (by decide) v7 m (flatS (cE R) m) rfl O7.out A8 (R.length - (m + 1)) (c - (m + 1)) (flatS (fun i => cE R (m + 1 + i)) (R.length - (m + 1))) rfl HN8.out (flatS_len (wideE fun i => R[m + 1 + i]!) _) (fun ad e => (HS8.out w7 HQ7.out).cellsAt (wideE fun i => R[m + 1 + i]!) ad e) (onesE (fun i => R[m + 1 + i]!) _) (by unfold maxLen; omega) (by omega) HQ7.out.size ?_
            intro v8 w8 ho8 hg8
            obtain ⟨A9, c9, rfl⟩ := row_shapeS ho8
            rw [HFD.out] at ho8
            have O8 := Lib.hid ho8
            have HQ8 : Hid (Below w4.heap.size w4 w8) := Lib.hid (HQ7.out.grown hg8 HQ7.out.size (fun k hk => (row_lt O7.out hk).1))
            have HX8 := Lib.hid (HRX.out w8 HQ8.out)
            have c8 := HX8.out.at0
            have f8 := frozen_of_row w8 p 0 _ _ HX8.out.cell
            clear ho8 hg8
            refine hK.out _ _ trivial (fun hHeld => ?_)
            clear hK K
            try simp only [Act.put, List.setIfInBounds_toArray, List.set_cons_zero, List.set_cons_succ]
            refine wpAnyH_take (i := 17) (v := ?_) (by simp only [List.getElem?_toArray, List.getElem?_cons_zero, List.getElem?_cons_succ]; rfl) (by kernel_rfl) (by kernel_rfl) (by kernel_rfl) (by intro _ _ _ h; exact h) (Or.inl ⟨by rfl, ?_⟩) hHeld ?_
            rotate_left
            · (intro w hSw; (try dsimp only at hSw); go_simp; try with_reducible rfl)
            try simp only [Act.put, List.setIfInBounds_toArray, List.set_cons_zero, List.set_cons_succ]
            refine wpAnyH_take (i := 18) (v := ?_) (by simp only [List.getElem?_toArray, List.getElem?_cons_zero, List.getElem?_cons_succ]; rfl) (by kernel_rfl) (by kernel_rfl) (by kernel_rfl) (by intro _ _ _ h; exact h) (Or.inl ⟨by rfl, ?_⟩) hHeld ?_
            rotate_left
            · (intro w hSw; (try dsimp only at hSw); go_simp; try with_reducible rfl)
            try simp only [Act.put, List.setIfInBounds_toArray, List.set_cons_zero, List.set_cons_succ]
            refine wpAnyH_ready (rs := [19]) (by kernel_rfl) (by simp) ?_
            refine AllReadyH.cons (by simp only [List.getElem?_toArray, List.getElem?_cons_zero, List.getElem?_cons_succ]; rfl) (fun K hK => ?_) AllReadyH.nil
            rw [if_pos (by rfl)]
            go_simp
            refine hK.out _ _ trivial (fun hHeld => ?_)
            clear hK K
            try simp only [Act.put, List.setIfInBounds_toArray, List.set_cons_zero, List.set_cons_succ]
            refine wpAnyH_done (by kernel_rfl) ?_ _
            clear hHeld
            have hdl := HDL.out
            have hlen : m + (R.length - (m + 1)) = (delR k R).length := by omega
            go_wp2_with fail
            go_ret
            refine ⟨by rw [HE.out.1]; rfl, ?_⟩
            rw [HE.out.2]
            have O9 := O8.out
            rw [hlen] at O9 ⊢
            exact ⟨⟨_, rx_store HX8.out O9 (Nat.le_trans HBS.out BP.out.size) (rise_del HR.out)⟩, Keeps.from (BP.out.trans (HQ8.out.mono BP.out.size)) (Keeps.setCell _ _ ⟨p, 0, none⟩ _ rfl)⟩
        · rw [if_pos (by rfl)]
          go_simp
          refine hK.out _ _ trivial (fun hHeld => ?_)
          clear hK K
          try simp only [Act.put, List.setIfInBounds_toArray, List.set_cons_zero, List.set_cons_succ]
          refine wpAnyH_take (i := 15) (v := _) (by simp only [List.getElem?_toArray, List.getElem?_cons_zero, List.getElem?_cons_succ]; rfl) (by kernel_rfl) (by kernel_rfl) (by kernel_rfl) (by intro _ _ _ h; exact h) (yields_slice (by rfl) 36 (.tmp 58) (some (.tmp 60)) none rfl (.slice (some ⟨g, 0, none⟩) R.length c) rfl (some (.int .i64 ((m + 1 : Nat) : Int))) none rfl rfl (.slice A8 (R.length - (m + 1)) (c - (m + 1))) HTL.out) hHeld ?_
          try simp only [Act.put, List.setIfInBounds_toArray, List.set_cons_zero, List.set_cons_succ]
          refine wpAnyH_ready (rs := [1, 5]) (by kernel_rfl) (by simp) ?_
          refine AllReadyH.cons (by simp only [List.getElem?_toArray, List.getElem?_cons_zero, List.getElem?_cons_succ]; rfl) (fun K hK => ?_) (AllReadyH.cons (by simp only [List.getElem?_toArray, List.getElem?_cons_zero, List.getElem?_cons_succ]; rfl) (fun K hK => ?_) AllReadyH.nil)
          · rw [if_pos (by rfl)]
            go_simp
            try rw [HW6.out, ← HG0.out]
            refine hK.out _ _ trivial (fun hHeld => ?_)
            clear hK K
            try simp only [Act.put, List.setIfInBounds_toArray, List.set_cons_zero, List.set_cons_succ]
            refine wpAnyH_ready (rs := [5]) (by kernel_rfl) (by simp) ?_
            refine AllReadyH.cons (by simp only [List.getElem?_toArray, List.getElem?_cons_zero, List.getElem?_cons_succ]; rfl) (fun K hK => ?_) AllReadyH.nil
            rw [if_pos (by rfl)]
            go_simp
            refine hK.out _ _ trivial (fun hHeld => ?_)
            clear hK K
            try simp only [Act.put, List.setIfInBounds_toArray, List.set_cons_zero, List.set_cons_succ]
            refine wpAnyH_take (i := 7) (v := _) (by simp only [List.getElem?_toArray, List.getElem?_cons_zero, List.getElem?_cons_succ]; rfl) (by kernel_rfl) (by kernel_rfl) (by kernel_rfl) (by intro _ _ _ h; exact h) (yields_slice (by rfl) 36 (.tmp 51) none (some (.tmp 52)) rfl (.slice (some ⟨g, 0, none⟩) R.length c) rfl none (some (.int .i64 m)) rfl rfl (.slice (some ⟨g, 0, none⟩) m c) HHD.out) hHeld ?_
            try simp only [Act.put, List.setIfInBounds_toArray, List.set_cons_zero, List.set_cons_succ]
            refine wpAnyH_ready (rs := [8]) (by kernel_rfl) (by simp) ?_
            refine AllReadyH.cons (by simp only [List.getElem?_toArray, List.getElem?_cons_zero, List.getElem?_cons_succ]; rfl) (fun K hK => ?_) AllReadyH.nil
            rw [if_pos (by rfl)]
            refine wp_append_any (.tmp 47) (.tmp 53) 36 rfl w4.heap.size 43 i0 (.agg zIt.toArray) 73 136 Try.underlying36 HI.out.1 HI.out.2.1 HI.out.2.2.1 HI.out.2.2.2 rfl (by decide) (.slice (some ⟨g0, 0, none⟩) 0 0) 0 [] rfl OW0.out (some ⟨g, 0, none⟩) m c (flatS (cE R) m) rfl (fun h => by cases h) (flatS_len (wideE _) m) (fun ad e => (HSA.out w6 HQ6.out).cellsAt (wideE _) ad e) (onesE _ m) (by unfold maxLen; omega) (by omega) HQ6.out.size ?_
            intro v7 w7 ho7 hg7
            rw [Nat.zero_add, List.nil_append] at ho7
            have O7 := Lib.hid ho7
            have HQ7 : Hid (Below w4.heap.size w4 w7) := Lib.hid (HQ6.out.grown hg7 HQ6.out.size (fun k e => by have e2 : g0 = k := (by simpa [Value.ownBlock] using e); rw [← e2, HG0.out]; exact HQ0.out.size))
            have c7 := (HRX.out w7 HQ7.out).at0
            clear ho7 hg7
            refine hK.out _ _ trivial (fun hHeld => ?_)
            clear hK K
            try simp only [Act.put, List.setIfInBounds_toArray, List.set_cons_zero, List.set_cons_succ]
            refine wpAnyH_ready (rs := [16]) (by kernel_rfl) (by simp) ?_
            refine AllReadyH.cons (by simp only [List.getElem?_toArray, List.getElem?_cons_zero, List.getElem?_cons_succ]; rfl) (fun K hK => ?_) AllReadyH.nil
            rw [if_pos (by rfl)]
            refine wp_append_any (.tmp 54) (.tmp 61) 36 rfl w4.heap.size 43 i0 (.agg zIt.toArray) 73 136 Try.underlying36 HI.out.1 HI.out.2.1 HI.out.2.2.1 HI.out.2.2.2 rfl (by decide) v7 m (flatS (cE R) m) rfl O7.out A8 (R.length - (m + 1)) (c - (m + 1)) (flatS (fun i => cE R (m + 1 + i)) (R.length - (m + 1))) rfl HN8.out (flatS_len (wideE fun i => R[m + 1 + i]!) _) (fun ad e => (HS8.out w7 HQ7.out).cellsAt (wideE fun i => R[m + 1 + i]!) ad e) (onesE (fun i => R[m + 1 + i]!) _) (by unfold maxLen; omega) (by omega) HQ7.out.size ?_
            intro v8 w8 ho8 hg8
            obtain ⟨A9, c9, rfl⟩ := row_shapeS ho8
            rw [HFD.out] at ho8
            have O8 := Lib.hid ho8
            have HQ8 : Hid (Below w4.heap.size w4 w8) := Lib.hid (HQ7.out.grown hg8 HQ7.out.size (fun k hk => (row_lt O7.out hk).1))
            have HX8 := Lib.hid (HRX.out w8 HQ8.out)
            have c8 := HX8.out.at0
            have f8 := frozen_of_row w8 p 0 _ _ HX8.out.cell
            clear ho8 hg8
            refine hK.out _ _ trivial (fun hHeld => ?_)
            clear hK K
            try simp only [Act.put, List.setIfInBounds_toArray, List.set_cons_zero, List.set_cons_succ]
            refine wpAnyH_take (i := 17) (v := ?_) (by simp only [List.getElem?_toArray, List.getElem?_cons_zero, List.getElem?_cons_succ]; rfl) (by kernel_rfl) (by kernel_rfl) (by kernel_rfl) (by intro _ _ _ h; exact h) (Or.inl ⟨by rfl, ?_⟩) hHeld ?_
            rotate_left
            · (intro w hSw; (try dsimp only at hSw); go_simp; try with_reducible rfl)
            try simp only [Act.put, List.setIfInBounds_toArray, List.set_cons_zero, List.set_cons_succ]
            refine wpAnyH_take (i := 18) (v := ?_) (by simp only [List.getElem?_toArray, List.getElem?_cons_zero, List.getElem?_cons_succ]; rfl) (by kernel_rfl) (by kernel_rfl) (by kernel_rfl) (by intro _ _ _ h; exact h) (Or.inl ⟨by rfl, ?_⟩) hHeld ?_
            rotate_left
            · (intro w hSw; (try dsimp only at hSw); go_simp; try with_reducible rfl)
            try simp only [Act.put, List.setIfInBounds_toArray, List.set_cons_zero, List.set_cons_succ]
            refine wpAnyH_ready (rs := [19]) (by kernel_rfl) (by simp) ?_
            refine AllReadyH.cons (by simp only [List.getElem?_toArray, List.getElem?_cons_zero, List.getElem?_cons_succ]; rfl) (fun K hK => ?_) AllReadyH.nil
            rw [if_pos (by rfl)]
            go_simp
            refine hK.out _ _ trivial (fun hHeld => ?_)
            clear hK K
            try simp only [Act.put, List.setIfInBounds_toArray, List.set_cons_zero, List.set_cons_succ]
            refine wpAnyH_done (by kernel_rfl) ?_ _
            clear hHeld
            have hdl := HDL.out
            have hlen : m + (R.length - (m + 1)) = (delR k R).length := by omega
            go_wp2_with fail
            go_ret
            refine ⟨by rw [HE.out.1]; rfl, ?_⟩
            rw [HE.out.2]
            have O9 := O8.out
            rw [hlen] at O9 ⊢
            exact ⟨⟨_, rx_store HX8.out O9 (Nat.le_trans HBS.out BP.out.size) (rise_del HR.out)⟩, Keeps.from (BP.out.trans (HQ8.out.mono BP.out.size)) (Keeps.setCell _ _ ⟨p, 0, none⟩ _ rfl)⟩
          · rw [if_pos (by rfl)]
            go_simp
            refine hK.out _ _ trivial (fun hHeld => ?_)
            clear hK K
            try simp only [Act.put, List.setIfInBounds_toArray, List.set_cons_zero, List.set_cons_succ]
            refine wpAnyH_take (i := 7) (v := _) (by simp only [List.getElem?_toArray, List.getElem?_cons_zero, List.getElem?_cons_succ]; rfl) (by kernel_rfl) (by kernel_rfl) (by kernel_rfl) (by intro _ _ _ h; exact h) (yields_slice (by rfl) 36 (.tmp 51) none (some (.tmp 52)) rfl (.slice (some ⟨g, 0, none⟩) R.length c) rfl none (some (.int .i64 m)) rfl rfl (.slice (some ⟨g, 0, none⟩) m c) HHD.out) hHeld ?_
            try simp only [Act.put, List.setIfInBounds_toArray, List.set_cons_zero, List.set_cons_succ]
            refine wpAnyH_ready (rs := [1]) (by kernel_rfl) (by simp) ?_
            refine AllReadyH.cons (by simp only [List.getElem?_toArray, List.getElem?_cons_zero, List.getElem?_cons_succ]; rfl) (fun K hK => ?_) AllReadyH.nil
            rw [if_pos (by rfl)]
            go_simp
            try rw [HW6.out, ← HG0.out]
            refine hK.out _ _ trivial (fun hHeld => ?_)
            clear hK K
            try simp only [Act.put, List.setIfInBounds_toArray, List.set_cons_zero, List.set_cons_succ]
            refine wpAnyH_ready (rs := [8]) (by kernel_rfl) (by simp) ?_
            refine AllReadyH.cons (by simp only [List.getElem?_toArray, List.getElem?_cons_zero, List.getElem?_cons_succ]; rfl) (fun K hK => ?_) AllReadyH.nil
            rw [if_pos (by rfl)]
            refine wp_append_any (.tmp 47) (.tmp 53) 36 rfl w4.heap.size 43 i0 (.agg zIt.toArray) 73 136 Try.underlying36 HI.out.1 HI.out.2.1 HI.out.2.2.1 HI.out.2.2.2 rfl (by decide) (.slice (some ⟨g0, 0, none⟩) 0 0) 0 [] rfl OW0.out (some ⟨g, 0, none⟩) m c (flatS (cE R) m) rfl (fun h => by cases h) (flatS_len (wideE _) m) (fun ad e => (HSA.out w6 HQ6.out).cellsAt (wideE _) ad e) (onesE _ m) (by unfold maxLen; omega) (by omega) HQ6.out.size ?_
            intro v7 w7 ho7 hg7
            rw [Nat.zero_add, List.nil_append] at ho7
            have O7 := Lib.hid ho7
            have HQ7 : Hid (Below w4.heap.size w4 w7) := Lib.hid (HQ6.out.grown hg7 HQ6.out.size (fun k e => by have e2 : g0 = k := (by simpa [Value.ownBlock] using e); rw [← e2, HG0.out]; exact HQ0.out.size))
            have c7 := (HRX.out w7 HQ7.out).at0
            clear ho7 hg7
            refine hK.out _ _ trivial (fun hHeld => ?_)
            clear hK K
            try simp only [Act.put, List.setIfInBounds_toArray, List.set_cons_zero, List.set_cons_succ]
            refine wpAnyH_ready (rs := [16]) (by kernel_rfl) (by simp) ?_
            refine AllReadyH.cons (by simp only [List.getElem?_toArray, List.getElem?_cons_zero, List.getElem?_cons_succ]; rfl) (fun K hK => ?_) AllReadyH.nil
            rw [if_pos (by rfl)]
            refine wp_append_any (.tmp 54) (.tmp 61) 36 rfl w4.heap.size 43 i0 (.agg zIt.toArray) 73 136 Try.underlying36 HI.out.1 HI.out.2.1 HI.out.2.2.1 HI.out.2.2.2 rfl (by decide) v7 m (flatS (cE R) m) rfl O7.out A8 (R.length - (m + 1)) (c - (m + 1)) (flatS (fun i => cE R (m + 1 + i)) (R.length - (m + 1))) rfl HN8.out (flatS_len (wideE fun i => R[m + 1 + i]!) _) (fun ad e => (HS8.out w7 HQ7.out).cellsAt (wideE fun i => R[m + 1 + i]!) ad e) (onesE (fun i => R[m + 1 + i]!) _) (by unfold maxLen; omega) (by omega) HQ7.out.size ?_
            intro v8 w8 ho8 hg8
            obtain ⟨A9, c9, rfl⟩ := row_shapeS ho8
            rw [HFD.out] at ho8
            have O8 := Lib.hid ho8
            have HQ8 : Hid (Below w4.heap.size w4 w8) := Lib.hid (HQ7.out.grown hg8 HQ7.out.size (fun k hk => (row_lt O7.out hk).1))
            have HX8 := Lib.hid (HRX.out w8 HQ8.out)
            have c8 := HX8.out.at0
            have f8 := frozen_of_row w8 p 0 _ _ HX8.out.cell
            clear ho8 hg8
            refine hK.out _ _ trivial (fun hHeld => ?_)
            clear hK K
            try simp only [Act.put, List.setIfInBounds_toArray, List.set_cons_zero, List.set_cons_succ]
            refine wpAnyH_take (i := 17) (v := ?_) (by simp only [List.getElem?_toArray, List.getElem?_cons_zero, List.getElem?_cons_succ]; rfl) (by kernel_rfl) (by kernel_rfl) (by kernel_rfl) (by intro _ _ _ h; exact h) (Or.inl ⟨by rfl, ?_⟩) hHeld ?_
            rotate_left
            · (intro w hSw; (try dsimp only at hSw); go_simp; try with_reducible rfl)
            try simp only [Act.put, List.setIfInBounds_toArray, List.set_cons_zero, List.set_cons_succ]
            refine wpAnyH_take (i := 18) (v := ?_) (by simp only [List.getElem?_toArray, List.getElem?_cons_zero, List.getElem?_cons_succ]; rfl) (by kernel_rfl) (by kernel_rfl) (by kernel_rfl) (by intro _ _ _ h; exact h) (Or.inl ⟨by rfl, ?_⟩) hHeld ?_
            rotate_left
            · (intro w hSw; (try dsimp only at hSw); go_simp; try with_reducible rfl)
            try simp only [Act.put, List.setIfInBounds_toArray, List.set_cons_zero, List.set_cons_succ]
            refine wpAnyH_ready (rs := [19]) (by kernel_rfl) (by simp) ?_
            refine AllReadyH.cons (by simp only [List.getElem?_toArray, List.getElem?_cons_zero, List.getElem?_cons_succ]; rfl) (fun K hK => ?_) AllReadyH.nil
            rw [if_pos (by rfl)]
            go_simp
            refine hK.out _ _ trivial (fun hHeld => ?_)
            clear hK K
            try simp only [Act.put, List.setIfInBounds_toArray, List.set_cons_zero, List.set_cons_succ]
            refine wpAnyH_done (by kernel_rfl) ?_ _
            clear hHeld
            have hdl := HDL.out
            have hlen : m + (R.length - (m + 1)) = (delR k R).length := by omega
            go_wp2_with fail
            go_ret
            refine ⟨by rw [HE.out.1]; rfl, ?_⟩
            rw [HE.out.2]
            have O9 := O8.out
            rw [hlen] at O9 ⊢
            exact ⟨⟨_, rx_store HX8.out O9 (Nat.le_trans HBS.out BP.out.size) (rise_del HR.out)⟩, Keeps.from (BP.out.trans (HQ8.out.mono BP.out.size)) (Keeps.setCell _ _ ⟨p, 0, none⟩ _ rfl)⟩
end Go.Proofs.Ytnindkpgmiafnaa
