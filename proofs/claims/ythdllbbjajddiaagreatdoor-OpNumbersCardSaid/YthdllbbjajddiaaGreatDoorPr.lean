/- Layer 25 (op): the program's reader: take. -/
import Derived.Test.YthdllbbjajddiaaGreatDoorPw
import Derived.Test.YthdllbbjajddiaaGreatDoorKm
import Derived.Test.YthdllbbjajddiaaGreatDoorApp
import Derived.Test.YthdllbbjajddiaaGreatDoorSeg
import Derived.OwnWalk
import Derived.Laws.BitsAllLaws
import Derived.Laws.BitsLemmas
set_option linter.all false
namespace Go.Proofs.YthdllbbjajddiaaGreatDoor
open Go.RowKit Go.Maps Go.WideMaps
theorem info5 : (Tryz.prog.info? 5).map (fun i => (i.zero, i.size, i.bytes)) = some (some (.int .u8 0), 1, 1) := by kernel_rfl
theorem size5 : (Tryz.prog.info? 5).map (·.size) = some 1 := by kernel_rfl
/-- A reader: what is left, and whether there was too little. -/
structure Rdr (w : World) (r : Nat) (l : List Int) (bad : Bool) : Prop where
  byt : Byt l
  len : l.length ≤ 1099511627776
  ex : ∃ A c, l.length ≤ c ∧ w.heap[r]? = some (.cells #[.slice A l.length c, .bool bad] 73 (0, 0)) ∧ Arr w r A l.length fun j => .int .u8 (l.getD j 0)
theorem Rdr.keeps {S : Nat → Prop} {w w' : World} {r : Nat} {l : List Int} {bad : Bool} (h : Rdr w r l bad) (hk : Keeps S w w') (hS : ∀ k, k ≤ r → ¬ S k) : Rdr w' r l bad := by
  obtain ⟨A, c, h1, h2, h3⟩ := h.ex
  exact ⟨h.byt, h.len, A, c, h1, hk.heap h2 (hS r (Nat.le_refl _)), hk.arr h3 fun k hk2 => hS k (by omega)⟩
theorem Rdr.lt {w : World} {r : Nat} {l : List Int} {bad : Bool} (h : Rdr w r l bad) : r < w.heap.size := by
  obtain ⟨A, c, h1, h2, h3⟩ := h.ex
  exact heap_lt h2
theorem Rdr.fresh {w w' : World} {r : Nat} {l : List Int} {bad : Bool} (h : Rdr w r l bad) (hb : Below w.heap.size w w') : Rdr w' r l bad := h.keeps (Keeps.fresh (S := fun _ => False) hb) fun _ _ h => h
def TakeP (w : World) (r m : Nat) (l : List Int) (bad : Bool) (e : Ending) (w' : World) : Prop :=
  ∃ b off c, e = .returned (.slice (some ⟨b, off, none⟩) m c) ∧ m ≤ c ∧ b < w'.heap.size ∧ b ≠ r ∧ (∀ j, j < m → w'.cell? ⟨b, off + j, none⟩ = some (.int .u8 ((takeR m (l, bad)).1.getD j 0))) ∧ Rdr w' r (takeR m (l, bad)).2.1 (takeR m (l, bad)).2.2 ∧ Keeps (fun k => k = r) w w'
theorem set_blk {w : World} {b o : Nat} {v : Value} {cur : List Value} {t : TypeId} (h : w.heap[b]? = some (.cells cur.toArray t (0, 0))) : (w.setCell ⟨b, o, none⟩ v).heap[b]? = some (.cells (cur.set o v).toArray t (0, 0)) := by
  rw [heap_setCell_same w b o _ _ _ h]; simp
theorem made_u8 (m : Nat) : (madeCells (Value.int .u8 0).cells (m * 1)).toList = List.replicate m (.int .u8 0) := by
  rw [Nat.mul_one]
  exact toList_madeCells_one _ _
set_option maxRecDepth 100000 in
set_option maxHeartbeats 2000000 in
theorem take83 (w : World) (r m : Nat) (l : List Int) (bad : Bool) (h : Rdr w r l bad) (hm : 1 ≤ m) (hm2 : m ≤ 1000) :
    Calls Tryz.prog 49 #[.pointer (some ⟨r, 0, none⟩), .int .i64 m] w (TakeP w r m l bad) := by
  obtain ⟨i0, hi, hz0, hz1, hz2⟩ := infoParts info5
  have HI := Lib.hid (And.intro hi (And.intro hz0 (And.intro hz1 hz2)))
  clear hi hz0 hz1 hz2
  obtain ⟨hbt, hln, A, c, hlc, hh, ha⟩ := h
  obtain ⟨n, hn⟩ : ∃ n, n = l.length := ⟨_, rfl⟩
  rw [← hn] at hln hlc hh ha
  have HN := Lib.hid hn
  have HH := Lib.hid hh
  have HA := Lib.hid ha
  have HBT := Lib.hid hbt
  have c0 : w.cell? ⟨r, 0, none⟩ = some (.slice A n c) := block_cell hh 0 _ rfl
  have c1 : w.cell? ⟨r, 1, none⟩ = some (.bool bad) := block_cell hh 1 _ rfl
  have f0 : w.frozen? ⟨r, 0, none⟩ = false := frozen_of_row w _ _ _ _ hh
  have f1 : w.frozen? ⟨r, 1, none⟩ = false := frozen_of_row w _ _ _ _ hh
  have hrl := heap_lt hh
  clear hn hh ha hbt
  by_cases hbad : bad = true ∨ n < m
  · have HE : Hid (takeR m (l, bad) = (List.replicate m 0, (l, true))) := Lib.hid (by unfold takeR; exact if_pos (by rw [← HN.out]; exact hbad))
    have HB1 : Hid (decide ((n : Int) < m) = true ∨ bad = true) := Lib.hid (by
      rcases hbad with h | h
      · exact .inr h
      · exact .inl (by simp; omega))
    clear hbad
    obtain ⟨w1, hw1⟩ : ∃ w1, w1 = w.setCell ⟨r, 1, none⟩ (.bool true) := ⟨_, rfl⟩
    have H1 : Hid (w1.heap[r]? = some (.cells #[.slice A n c, .bool true] 73 (0, 0))) := Lib.hid (by rw [hw1]; exact set_blk (cur := [.slice A n c, .bool bad]) HH.out)
    have K1 : Hid (Keeps (fun k => k = r) w w1) := Lib.hid (by rw [hw1]; exact Keeps.setCell _ _ _ _ rfl)
    have HR1 : Hid (Rdr w1 r l true) := Lib.hid ⟨HBT.out, by rw [← HN.out]; exact hln, A, c, by rw [← HN.out]; exact hlc, by rw [← HN.out]; exact H1.out, by rw [← HN.out]; exact K1.out.arr HA.out fun k hk e => by omega⟩
    have hw2 : w.setCell ⟨r, 1, none⟩ (.bool true) = w1 := hw1.symm
    clear hw1
    have d1 : w1.cell? ⟨r, 1, none⟩ = some (.bool true) := block_cell H1.out 1 _ rfl
    have END : ∀ w2 : World, w2.ownsRow w1.heap.size 5 1 (.slice (some ⟨w1.heap.size, 0, none⟩) m m) m (madeCells (Value.int .u8 0).cells (m * 1)).toList → w1.grownBy w2 none → TakeP w r m l bad (.returned (.slice (some ⟨w1.heap.size, 0, none⟩) m m)) w2 := fun w2 ho hg => by
      refine ⟨_, 0, m, rfl, Nat.le_refl _, ?_, ?_, fun j hj => ?_, ?_, ?_⟩
      · exact (row_lt ho (k := w1.heap.size) rfl).2
      · have := heap_lt H1.out; omega
      · rw [HE.out]
        have h9 := ho.cellAt j (by omega)
        rw [Nat.zero_add]
        rw [h9, made_u8, List.getElem?_replicate, if_pos hj, List.getD_eq_getElem?_getD, List.getElem?_replicate, if_pos hj]; rfl
      · rw [HE.out]; exact HR1.out.keeps (Keeps.grown (S := fun _ => False) hg fun k e => by cases e) fun _ _ h => h
      · exact K1.out.trans (Keeps.grown (S := fun _ => False) hg fun k e => by cases e) fun _ _ h => h.elim
    have HEND := Lib.hid END
    clear END
    have L1 : Hid (i0.bytes * m ≤ 281474976710656) := Lib.hid (by rw [HI.out.2.2.2]; omega)
    have L2 : Hid (m ≤ maxLen) := Lib.hid (by unfold maxLen; omega)
    rcases HB1.out with hlt | hb
    · cases bad with
      | true =>
        clear hlt
        go_enter Tryz.func49, Tryz.ntmps49
        go_wp2_with (at_make; refine wpList_make_full _ rfl _ _ 30 rfl w1.heap.size 5 i0 (.int .u8 0) 1 Tryz.underlying30 HI.out.1 HI.out.2.1 HI.out.2.2.1 _ _ _ _ m rfl rfl (by rfl) (by rfl) L1.out L2.out (Nat.le_refl _) ?_; intro w2 hown hg)
        go_ret
        exact HEND.out _ hown hg
      | false =>
        have hlt2 : decide (n < m) = true := by simp at hlt ⊢; omega
        go_enter Tryz.func49, Tryz.ntmps49
        go_wp2_with (at_make; refine wpList_make_full _ rfl _ _ 30 rfl w1.heap.size 5 i0 (.int .u8 0) 1 Tryz.underlying30 HI.out.1 HI.out.2.1 HI.out.2.2.1 _ _ _ _ m rfl rfl (by rfl) (by rfl) L1.out L2.out (Nat.le_refl _) ?_; intro w2 hown hg)
        go_ret
        exact HEND.out _ hown hg
    · subst hb
      go_enter Tryz.func49, Tryz.ntmps49
      go_wp2_with (at_make; refine wpList_make_full _ rfl _ _ 30 rfl w1.heap.size 5 i0 (.int .u8 0) 1 Tryz.underlying30 HI.out.1 HI.out.2.1 HI.out.2.2.1 _ _ _ _ m rfl rfl (by rfl) (by rfl) L1.out L2.out (Nat.le_refl _) ?_; intro w2 hown hg)
      go_ret
      exact HEND.out _ hown hg
  · obtain rfl : bad = false := by
      cases bad with
      | true => exact absurd (.inl rfl) hbad
      | false => rfl
    have hnm : m ≤ n := by
      rcases Nat.lt_or_ge n m with h | h
      · exact absurd (.inr h) hbad
      · exact h
    obtain ⟨b, off, rfl, hb, hc⟩ := HA.out (by omega)
    have HE : Hid (takeR m (l, false) = (l.take m, (l.drop m, false))) := Lib.hid (by unfold takeR; exact if_neg (by rw [← HN.out]; exact hbad))
    have t1 : decide ((n : Int) < m) = false := by simp; omega
    have t2 : decide (n < m) = false := by simp; omega
    have HD := Lib.hid fun W => slice_head (P := Tryz.prog) Tryz.underlying30 size5 (A := some ⟨b, off, none⟩) (fun ad e => by cases e; rfl) n c m hnm hlc W
    have TL := Lib.hid fun W => slice_tail (P := Tryz.prog) Tryz.underlying30 size5 (some ⟨b, off, none⟩) n c m hnm W
    have hd := HD.out
    have tl := TL.out
    obtain ⟨A2, hA2⟩ : ∃ A2, A2 = if c = m then (some ⟨b, off, none⟩ : Option Addr) else (some ⟨b, off, none⟩ : Option Addr).map (·.add (m * 1)) := ⟨_, rfl⟩
    rw [← hA2] at tl
    have H2 := Lib.hid hA2
    have HC := Lib.hid hc
    clear hbad hc hA2 HD TL
    go_enter Tryz.func49, Tryz.ntmps49
    go_wp2_with fail
    go_ret
    have HW : Hid (∀ w2, w2 = (w.setCell ⟨r, 1, none⟩ (.bool false)).setCell ⟨r, 0, none⟩ (.slice A2 (n - m) (c - m)) → Keeps (fun k => k = r) w w2 ∧ w2.heap[r]? = some (.cells #[.slice A2 (n - m) (c - m), .bool false] 73 (0, 0))) := Lib.hid fun w2 e => by
      rw [e]
      refine ⟨(Keeps.setCell (fun k => k = r) w ⟨r, 1, none⟩ (.bool false) rfl).trans (Keeps.setCell (fun k => k = r) _ ⟨r, 0, none⟩ _ rfl) fun _ _ h => h, ?_⟩
      exact set_blk (cur := [.slice (some ⟨b, off, none⟩) n c, .bool false]) (set_blk (cur := [.slice (some ⟨b, off, none⟩) n c, .bool false]) HH.out)
    obtain ⟨w2, hw2⟩ : ∃ w2, w2 = (w.setCell ⟨r, 1, none⟩ (.bool false)).setCell ⟨r, 0, none⟩ (.slice A2 (n - m) (c - m)) := ⟨_, rfl⟩
    rw [← hw2]
    obtain ⟨hk, hh2⟩ := HW.out w2 hw2
    have hcell : ∀ j, j < n → w2.cell? ⟨b, off + j, none⟩ = some (.int .u8 (l.getD j 0)) := fun j hj => hk.cell (HC.out j hj) (by show ¬ b = r; omega)
    have hdl : (l.drop m).length = n - m := by rw [List.length_drop, ← HN.out]
    refine ⟨b, off, c, rfl, by omega, Nat.lt_of_lt_of_le (Nat.lt_trans hb hrl) hk.size, by omega, fun j hj => ?_, ?_, hk⟩
    · rw [HE.out, hcell j (by omega)]
      show _ = some (Value.int .u8 ((l.take m).getD j 0))
      rw [List.getD_eq_getElem?_getD, List.getD_eq_getElem?_getD, List.getElem?_take, if_pos hj]
    · rw [HE.out]
      refine ⟨fun x hx => HBT.out x (List.mem_of_mem_drop hx), by rw [hdl]; omega, A2, c - m, by rw [hdl]; omega, by rw [hdl]; exact hh2, ?_⟩
      rw [hdl]
      intro hlt
      refine ⟨b, off + m, ?_, hb, fun j hj => ?_⟩
      · rw [H2.out, if_neg (by omega)]
        simp [Addr.add]
        omega
      · rw [show off + m + j = off + (m + j) by omega, hcell (m + j) (by omega)]
        show _ = some (Value.int .u8 ((l.drop m).getD j 0))
        rw [List.getD_eq_getElem?_getD, List.getD_eq_getElem?_getD, List.getElem?_drop]
end Go.Proofs.YthdllbbjajddiaaGreatDoor
