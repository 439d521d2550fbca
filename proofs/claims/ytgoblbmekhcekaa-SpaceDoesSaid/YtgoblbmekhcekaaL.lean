/- The document's space (layer 19): New and Settle. No condition but where it lies. -/
import Derived.Test.YtgoblbmekhcekaaK
namespace Go.Proofs.Ytgoblbmekhcekaa
open Go.RowKit
def RfX (w : World) (Y : Nat → Prop) (b : Nat) (g : Geo) (n : Nw) (was : List Nw) : Prop := ∃ fv row ws, Rf w Y b g n was fv row ws
theorem RfX.keeps {w w' : World} {Y S : Nat → Prop} {b : Nat} {g : Geo} {n : Nw} {was : List Nw} (h : RfX w Y b g n was) (hk : Keeps S w w') (hY : ∀ k, Y k → ¬ S k) : RfX w' Y b g n was := by
  obtain ⟨fv, row, ws, h⟩ := h
  exact ⟨fv, row, ws, h.keeps hk hY⟩
theorem RfX.go {w w' : World} {Y : Nat → Prop} {b : Nat} {g : Geo} {n : Nw} {was : List Nw} (h : RfX w Y b g n was) (hb : Below w.heap.size w w') : RfX w' Y b g n was := by
  obtain ⟨fv, row, ws, h⟩ := h
  exact ⟨fv, row, ws, h.go hb⟩
theorem RfX.mono {w : World} {Y Y' : Nat → Prop} {b : Nat} {g : Geo} {n : Nw} {was : List Nw} (h : RfX w Y b g n was) (hY : ∀ k, Y k → k < w.heap.size → Y' k) : RfX w Y' b g n was := by
  obtain ⟨fv, row, ws, h⟩ := h
  exact ⟨fv, row, ws, h.mono hY⟩
/-- What becomes of the document's space. -/
def RGoes (w : World) (Y : Nat → Prop) (b : Nat) (g : Geo) (n : Nw) (was : List Nw) (v : Value) (e : Ending) (w' : World) : Prop :=
  e = .returned v ∧ RfX w' (fun k => Y k ∨ w.heap.size ≤ k) b g n was ∧ Keeps Y w w'
def RNewX (w : World) (g : Geo) (n : Nw) (e : Ending) (w' : World) : Prop := ∃ b, e = .returned (.tuple #[.pointer (some ⟨b, 0, none⟩), .bool true]) ∧ RfX w' (fun k => w.heap.size ≤ k) b g n [] ∧ Below w.heap.size w w'
set_option maxRecDepth 100000 in
set_option maxHeartbeats 2000000 in
theorem rsettle23t (f : Nat → Int) (A : Option Addr) (m c : Nat) (w : World) (Y : Nat → Prop) (b : Nat) (g : Geo) (n : Nw) (was : List Nw) (h : RfX w Y b g n was) (hm : m ≤ 140737488351232) (ha : Arr w w.heap.size A m fun j => .int .i64 (f j)) (hc : countsB g f m = true) :
    Calls Try.prog 23 #[.pointer (some ⟨b, 0, none⟩), .slice A m c] w (RGoes w Y b g (n.settled f) [] (.int .i64 0)) := by
  obtain ⟨fv, row, ws, h⟩ := h
  obtain ⟨c0, c1, c2, c3, c4, c5, c6, c7, c8⟩ := rf_cells h.blk
  have H := Lib.hid h
  have HA := Lib.hid ha
  have hcb := hc
  simp only [countsB, Bool.and_eq_true, decide_eq_true_eq] at hcb
  have hml : m = n.fr.length := by have := h.ok.len; omega
  have hmp : 0 < m ∧ m ≤ 256 := by have := h.fine.s1; have := h.fine.s2; omega
  have hfp : ∀ j, j < m → 0 ≤ f j := fun j hj => by
    have := fineB_iff.1 hcb.2 j hj
    simp only [badB, Bool.or_eq_false_iff, decide_eq_false_iff_not] at this
    omega
  have HM := Lib.hid (And.intro hml (And.intro hmp hfp))
  clear h ha hcb hml hmp hfp c6 c7
  go_enter Try.func23, Try.ntmps23
  go_wp2_with fail
  refine (counts37 g f A m c w hm HA.out).mono ?_
  rintro e w1 ⟨rfl, hb1⟩
  rw [hc]
  have HB1 := Lib.hid hb1
  have H1 := Lib.hid (H.out.go hb1)
  clear hb1 c0 c1 c2 c3 c4 c5 c8
  obtain ⟨c0, c1, c2, c3, c4, c5, c6, c7, c8⟩ := rf_cells H1.out.blk
  go_wp2_with fail
  refine (frees38 f n.op A m c w1 (by have := HM.out.2.1; omega) HM.out.2.1.1 ((HA.out.below HB1.out (Nat.le_refl _)).more HB1.out.size) HM.out.2.2).mono ?_
  rintro e w2 ⟨v, rfl, hfr, hb2⟩
  obtain ⟨q, cap, hv, -⟩ := id hfr
  subst hv
  have H2 := Lib.hid (And.intro (H1.out.go hb2) (And.intro hfr hb2))
  clear hfr hb2 c0 c1 c2 c3 c4 c5 c6 c7 c8
  obtain ⟨c0, c1, c2, c3, c4, c5, c6, c7, c8⟩ := rf_cells H2.out.1.blk
  have z5 : w2.frozen? ⟨b, 5, none⟩ = false := frozen_of_row _ _ _ _ _ H2.out.1.blk
  have z8 : w2.frozen? ⟨b, 8, none⟩ = false := frozen_of_row _ _ _ _ _ H2.out.1.blk
  go_wp2_with fail
  go_ret
  have hk : Keeps (fun k => k = b) w2 ((w2.setCell ⟨b, 5, none⟩ (.slice (some ⟨q, 0, none⟩) (freesL f n.op m).length cap)).setCell ⟨b, 8, none⟩ (.slice none 0 0)) := (set_keep _ _ _ _).trans (set_keep _ _ _ _) fun _ _ h => h
  have hbl := heap_lt H.out.blk
  have hs1 := HB1.out.size
  refine ⟨rfl, ⟨.slice (some ⟨q, 0, none⟩) (freesL f n.op m).length cap, .slice none 0 0, [], ?_, ⟨rfl, .inl ⟨rfl, rfl⟩⟩, by simp [Value.ownBlock], .inl H.out.yb, by simp [Value.ownBlock], ?_, by simp, rfl, ok_settled H.out.ok, by simp, H.out.right⟩, ?_⟩
  · rw [set_blk (set_blk H2.out.1.blk)]; rfl
  · have := (H2.out.2.1.keeps hk fun k hk e => by subst e; omega).mono (Z' := fun k => (Y k ∨ w.heap.size ≤ k) ∧ k ≠ b ∧ (Value.slice none 0 0).ownBlock ≠ some k) fun k hk _ => ⟨.inr (by omega), by omega, by simp [Value.ownBlock]⟩
    have hn : (n.settled f).fr = freesL f n.op m := by rw [HM.out.1]; rfl
    rw [hn]
    exact this
  · exact ((Keeps.fresh (S := Y) HB1.out).trans (Keeps.fresh (S := Y) H2.out.2.2) fun _ _ h => h).trans hk fun k _ e => e ▸ H.out.yb
set_option maxRecDepth 100000 in
set_option maxHeartbeats 2000000 in
theorem rsettle23f (f : Nat → Int) (A : Option Addr) (m c : Nat) (w : World) (Y : Nat → Prop) (b : Nat) (g : Geo) (n : Nw) (was : List Nw) (h : RfX w Y b g n was) (hm : m ≤ 140737488351232) (ha : Arr w w.heap.size A m fun j => .int .i64 (f j)) (hc : countsB g f m = false) :
    Calls Try.prog 23 #[.pointer (some ⟨b, 0, none⟩), .slice A m c] w (RGoes w Y b g n was (.int .i64 2)) := by
  have hx := h
  obtain ⟨fv, row, ws, h⟩ := h
  obtain ⟨c0, c1, c2, c3, c4, c5, c6, c7, c8⟩ := rf_cells h.blk
  have HX := Lib.hid hx
  have HA := Lib.hid ha
  clear h ha hx c5 c6 c7 c8
  go_enter Try.func23, Try.ntmps23
  go_wp2_with fail
  refine (counts37 g f A m c w hm HA.out).mono ?_
  rintro e w1 ⟨rfl, hb1⟩
  rw [hc]
  have HB1 := Lib.hid hb1
  clear hb1
  go_wp2_with fail
  go_ret
  exact ⟨rfl, (HX.out.go HB1.out).mono fun _ h _ => .inl h, Keeps.fresh HB1.out⟩
theorem rsettleX (f : Nat → Int) (A : Option Addr) (m c : Nat) (w : World) (Y : Nat → Prop) (b : Nat) (g : Geo) (n : Nw) (was : List Nw) (h : RfX w Y b g n was) (hm : m ≤ 140737488351232) (ha : Arr w w.heap.size A m fun j => .int .i64 (f j)) :
    Calls Try.prog 23 #[.pointer (some ⟨b, 0, none⟩), .slice A m c] w (RGoes w Y b g (settleR g n was f m).n (settleR g n was f m).was (.int .i64 (settleR g n was f m).err)) := by
  unfold settleR
  cases c1 : countsB g f m
  · simp only [Bool.false_eq_true, if_false]
    exact rsettle23f f A m c w Y b g n was h hm ha c1
  · simp only [if_true]
    exact rsettle23t f A m c w Y b g n was h hm ha c1
theorem ret_pb {a b : Bool} (h : a = b) (p : Value) : Ending.returned (.tuple #[p, .bool a]) = .returned (.tuple #[p, .bool b]) := by rw [h]
set_option maxRecDepth 100000 in
set_option maxHeartbeats 2000000 in
theorem rnew17f (g : Geo) (f : Nat → Int) (A : Option Addr) (n c : Nat) (w : World) (hn : n ≤ 140737488351232) (ha : Arr w w.heap.size A n fun j => .int .i64 (f j)) (h : newB g f n = false) :
    Calls Try.prog 17 #[gv g, .slice A n c] w fun e w' => e = .returned (.tuple #[.pointer none, .bool false]) ∧ Below w.heap.size w w' := by
  have hB := Lib.hid ((Below.refl _ w).alloc (Nat.le_refl w.heap.size) (.cells (gcs g) 23))
  have HA := Lib.hid ha
  have K0 := Lib.hid (heap_new w (.cells (gcs g) 23))
  clear ha
  cases hr : rightB g
  · clear h
    go_enter Try.func17, Try.ntmps17
    go_wp2_with (go_at_call 36; refine (right11f g _ hr).mono ?_; rintro e w1 ⟨rfl, hb1⟩)
    go_ret2
    exact ⟨rfl, hB.out.trans (hb1.mono hB.out.size)⟩
  · have hcb : countsB g f n = false := by simpa [newB, hr] using h
    clear h
    go_enter Try.func17, Try.ntmps17
    go_wp2_with fail
    refine (right11t g _ hr).mono ?_
    rintro e w1 ⟨rfl, hb1⟩
    have K1 := Lib.hid ((hb1.block w.heap.size (by simp)).trans K0.out)
    obtain ⟨e0, e1, e2, e3, e4⟩ := geo_at K1.out
    have HB1 := Lib.hid (hB.out.trans (hb1.mono hB.out.size))
    clear hb1
    go_wp2_with fail
    refine (counts37 g f A n c w1 hn ((HA.out.below HB1.out (Nat.le_refl _)).more HB1.out.size)).mono ?_
    rintro e w2 ⟨rfl, hb2⟩
    have HB2 := Lib.hid (HB1.out.trans (hb2.mono HB1.out.size))
    clear hb2
    rw [hcb]
    go_wp2_with fail
    go_ret2
    exact ⟨rfl, HB2.out⟩
set_option maxRecDepth 100000 in
set_option maxHeartbeats 2000000 in
theorem rnew17t (g : Geo) (f : Nat → Int) (A : Option Addr) (n c : Nat) (w : World) (ha : Arr w w.heap.size A n fun j => .int .i64 (f j)) (h : newB g f n = true) :
    Calls Try.prog 17 #[gv g, .slice A n c] w (RNewX w g ⟨freesL f (-1) n, -1, 0⟩) := by
  obtain ⟨hr, hs, hn, hf⟩ := newB_counts h
  have hB := Lib.hid ((Below.refl _ w).alloc (Nat.le_refl w.heap.size) (.cells (gcs g) 23))
  have HA := Lib.hid ha
  have K0 := Lib.hid (heap_new w (.cells (gcs g) 23))
  have hcb : countsB g f n = true := by simp only [newB, Bool.and_eq_true] at h; exact h.2
  have H := Lib.hid h
  have hs1 := (fine_right hr).s1
  have HF : Hid (0 < n ∧ ∀ j, j < n → 0 ≤ f j) := Lib.hid ⟨by omega, fun j hj => by
    have := fineB_iff.1 hf j hj
    simp only [badB, Bool.or_eq_false_iff, decide_eq_false_iff_not] at this
    omega⟩
  clear ha h hs hf hs1
  go_enter Try.func17, Try.ntmps17
  go_wp2_with fail
  refine (right11t g _ hr).mono ?_
  rintro e w1 ⟨rfl, hb1⟩
  have K1 := Lib.hid ((hb1.block w.heap.size (by simp)).trans K0.out)
  obtain ⟨e0, e1, e2, e3, e4⟩ := geo_at K1.out
  have HB1 := Lib.hid (hB.out.trans (hb1.mono hB.out.size))
  clear hb1
  go_wp2_with fail
  refine (counts37 g f A n c w1 (by omega) ((HA.out.below HB1.out (Nat.le_refl _)).more HB1.out.size)).mono ?_
  rintro e w2 ⟨rfl, hb2⟩
  have HB2 := Lib.hid (HB1.out.trans (hb2.mono HB1.out.size))
  have K2 := Lib.hid ((hb2.block w.heap.size (heap_lt K1.out)).trans K1.out)
  clear hb2 e0 e1 e2 e3 e4
  obtain ⟨e0, e1, e2, e3, e4⟩ := geo_at K2.out
  rw [hcb]
  have HA2 := Lib.hid ((HA.out.below HB2.out (Nat.le_refl _)).more HB2.out.size)
  go_wp2_with fail
  go_region_held3 (fun w' => w'.cell? ⟨w.heap.size, 0, none⟩ = some (.int .i64 g.V) ∧ w'.cell? ⟨w.heap.size, 1, none⟩ = some (.int .i64 g.S) ∧ w'.cell? ⟨w.heap.size, 2, none⟩ = some (.int .i64 g.G) ∧ w'.cell? ⟨w.heap.size, 3, none⟩ = some (.int .i64 g.U) ∧ w'.cell? ⟨w.heap.size, 4, none⟩ = some (.int .i64 g.J)) (go_keep)
    (first | (go_at_call 38; refine (frees38 f (-1) A n c w2.drew (by omega) HF.out.1 HA2.out HF.out.2).mono ?_; rintro e w3 ⟨v, rfl, hfr, hb3⟩; have K3 := Lib.hid ((hb3.block w.heap.size (heap_lt K2.out)).trans K2.out); obtain ⟨q, cap, hv, -⟩ := id hfr; subst hv; obtain ⟨e5, e6, e7, e8, e9⟩ := geo_at K3.out))
  have HFR := Lib.hid (And.intro hfr hb3)
  clear hfr hb3
  go_wp2_with fail
  go_ret2
  have hb4 : Below w3.heap.size w3 (w3.alloc (.cells (rfC g (.slice (some ⟨q, 0, none⟩) (freesL f (-1) n).length cap) ⟨freesL f (-1) n, -1, 0⟩ (.slice none 0 0)).toArray 53)) := (Below.refl _ w3).alloc (Nat.le_refl _) _
  have hs2 := HB2.out.size
  have hs3 : w2.heap.size ≤ w3.heap.size := HFR.out.2.size
  refine ⟨w3.heap.size, rfl, ⟨.slice (some ⟨q, 0, none⟩) (freesL f (-1) n).length cap, .slice none 0 0, [], heap_new w3 _, ⟨rfl, .inl ⟨rfl, rfl⟩⟩, by simp [Value.ownBlock], by show w.heap.size ≤ w3.heap.size; omega, by simp [Value.ownBlock], ?_, by simp, rfl, ok_new H.out, by simp, hr⟩, ?_⟩
  · exact (HFR.out.1.mono (Z' := fun k => w.heap.size ≤ k ∧ k ≠ w3.heap.size ∧ (Value.slice none 0 0).ownBlock ≠ some k) fun k hk hl => ⟨by have : w2.heap.size ≤ k := hk; omega, by omega, by simp [Value.ownBlock]⟩).keeps (Keeps.fresh (S := fun _ => False) hb4) (fun _ _ h => h)
  · exact HB2.out.trans (((Below.refl _ w2).drew.trans (HFR.out.2)).trans (hb4.mono (Nat.le_trans (by exact Nat.le_refl _) hs3)) |>.mono hs2)
end Go.Proofs.Ytgoblbmekhcekaa
