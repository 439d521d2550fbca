/- What set and Free of layer 19 (space) compute, at every input. No condition. -/
import Derived.Test.YtgoblbmekhcekaaB
import Derived.StillTailTactics
import Derived.RegionTactic
import Derived.BigRegion
import Derived.ChangeAlike
namespace Go.Proofs.Ytgoblbmekhcekaa
open Go.RowKit
/-- Which segments are free by counts, but one. -/
def freesL (f : Nat → Int) (op : Int) (n : Nat) : List Bool := (List.range n).map fun k => !(decide (0 < f k) || decide ((k : Int) = op))
theorem freesL_len (f : Nat → Int) (op : Int) (n : Nat) : (freesL f op n).length = n := by simp [freesL]
theorem freesL_at (f : Nat → Int) (op : Int) {n k : Nat} (h : k < n) : (freesL f op n)[k]? = some (!(decide (0 < f k) || decide ((k : Int) = op))) := by
  simp [freesL, h]
/-- The first k of them set. -/
def mixL (f : Nat → Int) (op : Int) (n k : Nat) (l : List Bool) : List Bool := (freesL f op n).take k ++ l.drop k
theorem mixL_len {f : Nat → Int} {op : Int} {n k : Nat} {l : List Bool} (h : l.length = n) (hk : k ≤ n) : (mixL f op n k l).length = n := by
  simp [mixL, freesL_len, h]; omega
theorem mixL_set {f : Nat → Int} {op : Int} {n k : Nat} {l : List Bool} (h : l.length = n) (hk : k < n) : (mixL f op n k l).set k (!(decide (0 < f k) || decide ((k : Int) = op))) = mixL f op n (k + 1) l := by
  have hl : ((freesL f op n).take k).length = k := by simp [freesL_len]; omega
  have e1 : (freesL f op n).take (k + 1) = (freesL f op n).take k ++ [!(decide (0 < f k) || decide ((k : Int) = op))] := by
    rw [List.take_add_one, freesL_at f op hk]; rfl
  have e2 : l.drop k = l[k]'(by omega) :: l.drop (k + 1) := List.drop_eq_getElem_cons (by omega)
  rw [mixL, mixL, List.set_append, if_neg (by omega), hl, Nat.sub_self, e2, e1, List.set_cons_zero, List.append_assoc]
  rfl
theorem mixL_all {f : Nat → Int} {op : Int} {n : Nat} {l : List Bool} (h : l.length = n) : mixL f op n n l = freesL f op n := by
  rw [mixL, List.take_of_length_le (by rw [freesL_len]; omega), List.drop_of_length_le (by omega), List.append_nil]
set_option maxRecDepth 100000 in
set_option maxHeartbeats 2000000 in
theorem set29 (f : Nat → Int) (A : Option Addr) (S c B b : Nat) (g : Geo) (n : Nw) (row : Value) (w : World) (hS : S ≤ 256) (hl : n.fr.length = S) (ha : Arr w B A S fun j => .int .i64 (f j)) (hb : w.heap[b]? = some (.cells (spC g n row).toArray 59 (0, 0)))
    (hne : ∀ b2 o, A = some ⟨b2, o, none⟩ → b2 ≠ b) : Calls Try.prog 29 #[.pointer (some ⟨b, 0, none⟩), .slice A S c] w fun e w' => e = .returned undef ∧ w'.heap[b]? = some (.cells (spC g ⟨freesL f n.op S, n.op, n.fl⟩ row).toArray 59 (0, 0)) ∧ Keeps (fun k => k = b) w w' := by
  have HA := Lib.hid ha
  have HB := Lib.hid hb
  have HL := Lib.hid hl
  clear ha hb hl
  go_enter Try.func29, Try.ntmps29
  go_wp2_with fail
  go_loopw [8] (fun i wr => ∃ k : Nat, k ≤ S ∧ i = .int .i64 k ∧ wr.heap[b]? = some (.cells (spC g ⟨mixL f n.op S k n.fr, n.op, n.fl⟩ row).toArray 59 (0, 0)) ∧ Keeps (fun k => k = b) w wr) (fun i _ => S - (intOf i).toNat)
  case atStart => exact ⟨0, Nat.zero_le _, rfl, HB.out, Keeps.refl _ _⟩
  case round =>
    clear HB
    obtain ⟨k, hk, rfl, hb, hkp⟩ := hrel
    have H := Lib.hid (And.intro hb hkp)
    by_cases hlt : k < S
    · have hm : (mixL f n.op S k n.fr).length = S := mixL_len HL.out hk
      have hck : ∃ b2 off, A = some ⟨b2, off, none⟩ ∧ wr.cell? ⟨b2, off + k, none⟩ = some (.int .i64 (f k)) := by
        obtain ⟨b2, off, e, h2, hc⟩ := HA.out (by omega)
        exact ⟨b2, off, e, hkp.cell (hc k hlt) (hne b2 off e)⟩
      obtain ⟨b2, off, rfl, hck⟩ := hck
      obtain ⟨c0, -⟩ := sp_cells hb (by show (mixL f n.op S k n.fr).length ≤ 256; omega)
      have cu := sp_used hb (by show (mixL f n.op S k n.fr).length ≤ 256; omega) k (by show k < (mixL f n.op S k n.fr).length; omega)
      obtain ⟨u, hu⟩ : ∃ u, wr.cell? ⟨b, k, none⟩ = some u := ⟨_, cu⟩
      have hfz : wr.frozen? ⟨b, k, none⟩ = false := frozen_of_row wr b k _ _ hb
      have HM := Lib.hid hm
      obtain ⟨x, hx⟩ : ∃ x, x = f k := ⟨_, rfl⟩
      obtain ⟨o, ho⟩ : ∃ o, o = n.op := ⟨_, rfl⟩
      have c0' : wr.cell? ⟨b, 256, none⟩ = some (.int .i64 o) := by rw [ho]; exact c0
      rw [← hx] at hck
      have HX := Lib.hid hx
      have HO := Lib.hid ho
      clear hb hkp cu hm hx ho c0
      have j1 : (0 : Int) ≤ k := by omega
      have j2 : (k : Int) < 256 := by omega
      have j3 : k < 256 := by omega
      by_cases h0 : 0 < x
      · have d0 : decide (0 < x) = true := by simpa using h0
        go_wp2_with fail
        refine ws_region 17 (by kernel_rfl) (by kernel_rfl) ?_
        simp only [List.take_succ_cons, List.take_zero, List.drop_succ_cons, List.drop_zero]
        iterate 5 (refine WS.take (v := ?_) (by rfl) ?_ ?_; rotate_left; · (go_simp; try with_reducible rfl); try simp only [Act.put, List.setIfInBounds_toArray, List.set_cons_zero, List.set_cons_succ])
        iterate 7 (refine WS.skip (by kernel_rfl) ?_; try simp only [Act.put, List.setIfInBounds_toArray, List.set_cons_zero, List.set_cons_succ])
        iterate 5 (refine WS.take (v := ?_) (by rfl) ?_ ?_; rotate_left; · (go_simp; try with_reducible rfl); try simp only [Act.put, List.setIfInBounds_toArray, List.set_cons_zero, List.set_cons_succ])
        refine WS.nil ?_
        have HU := Lib.hid hu
        clear hck c0' hu hfz
        change wpList _ _ _ _ _ wr.drew
        obtain ⟨w2, hw2⟩ : ∃ w2, w2 = wr.drew := ⟨_, rfl⟩
        have hu2 : w2.cell? ⟨b, k, none⟩ = some u := by rw [hw2]; exact HU.out
        have hfz2 : w2.frozen? ⟨b, k, none⟩ = false := by rw [hw2]; exact frozen_of_row wr b k _ _ H.out.1
        have H2 : Hid (w2.heap[b]? = some (.cells (spC g ⟨mixL f n.op S k n.fr, n.op, n.fl⟩ row).toArray 59 (0, 0)) ∧ Keeps (fun k => k = b) w w2) := Lib.hid (by rw [hw2]; exact ⟨H.out.1, H.out.2.trans (Keeps.drew _ wr) fun _ _ h => h⟩)
        rw [← hw2]
        clear hw2
        go_wp2_with fail
        go_roundw
        case rel =>
          refine ⟨k + 1, by omega, by go_num, ?_, H2.out.2.trans (set_keep _ _ _ _) fun _ _ h => h⟩
          rw [set_blk H2.out.1]
          have e : Value.bool true = Value.bool (!(!(decide (0 < f k) || decide ((k : Int) = n.op)))) := by
            rw [← HX.out, ← HO.out, Bool.not_not]; simp [h0]
          rw [e, spC_used_set k _ (by show k < (mixL f n.op S k n.fr).length; rw [HM.out]; exact hlt) (by show (mixL f n.op S k n.fr).length ≤ 256; rw [HM.out]; exact hS)]
          show some (Obj.cells (spC g ⟨(mixL f n.op S k n.fr).set k _, n.op, n.fl⟩ row).toArray 59 (0, 0)) = _
          rw [mixL_set HL.out hlt]
        case measure => simp [intOf]; omega
      · have d0 : decide (0 < x) = false := by simpa using h0
        go_wp2_with fail
        refine ws_region 17 (by kernel_rfl) (by kernel_rfl) ?_
        simp only [List.take_succ_cons, List.take_zero, List.drop_succ_cons, List.drop_zero]
        iterate 5 (refine WS.take (v := ?_) (by rfl) ?_ ?_; rotate_left; · (go_simp; try with_reducible rfl); try simp only [Act.put, List.setIfInBounds_toArray, List.set_cons_zero, List.set_cons_succ])
        iterate 7 (refine WS.take (v := ?_) (by kernel_rfl) ?_ ?_; rotate_left; · (go_simp; try with_reducible rfl); try simp only [Act.put, List.setIfInBounds_toArray, List.set_cons_zero, List.set_cons_succ])
        iterate 5 (refine WS.take (v := ?_) (by rfl) ?_ ?_; rotate_left; · (go_simp; try with_reducible rfl); try simp only [Act.put, List.setIfInBounds_toArray, List.set_cons_zero, List.set_cons_succ])
        refine WS.nil ?_
        have HU := Lib.hid hu
        clear hck c0' hu hfz
        change wpList _ _ _ _ _ wr.drew
        obtain ⟨w2, hw2⟩ : ∃ w2, w2 = wr.drew := ⟨_, rfl⟩
        have hu2 : w2.cell? ⟨b, k, none⟩ = some u := by rw [hw2]; exact HU.out
        have hfz2 : w2.frozen? ⟨b, k, none⟩ = false := by rw [hw2]; exact frozen_of_row wr b k _ _ H.out.1
        have H2 : Hid (w2.heap[b]? = some (.cells (spC g ⟨mixL f n.op S k n.fr, n.op, n.fl⟩ row).toArray 59 (0, 0)) ∧ Keeps (fun k => k = b) w w2) := Lib.hid (by rw [hw2]; exact ⟨H.out.1, H.out.2.trans (Keeps.drew _ wr) fun _ _ h => h⟩)
        rw [← hw2]
        clear hw2
        go_wp2_with fail
        go_roundw
        case rel =>
          refine ⟨k + 1, by omega, by go_num, ?_, H2.out.2.trans (set_keep _ _ _ _) fun _ _ h => h⟩
          rw [set_blk H2.out.1]
          have e : Value.bool ((k : Int) == o) = Value.bool (!(!(decide (0 < f k) || decide ((k : Int) = n.op)))) := by
            rw [← HX.out, ← HO.out, Bool.not_not]; rw [show decide (0 < x) = false from d0, Bool.false_or]; by_cases he : (k : Int) = o <;> simp [he]
          rw [e, spC_used_set k _ (by show k < (mixL f n.op S k n.fr).length; rw [HM.out]; exact hlt) (by show (mixL f n.op S k n.fr).length ≤ 256; rw [HM.out]; exact hS)]
          show some (Obj.cells (spC g ⟨(mixL f n.op S k n.fr).set k _, n.op, n.fl⟩ row).toArray 59 (0, 0)) = _
          rw [mixL_set HL.out hlt]
        case measure => simp [intOf]; omega
    · obtain rfl : k = S := by omega
      go_wp2_with fail
      refine bodyPost_end (results_none rfl _ _ _) rfl ?_
      rw [mixL_all HL.out] at hb
      exact ⟨rfl, hb, hkp⟩
end Go.Proofs.Ytgoblbmekhcekaa
