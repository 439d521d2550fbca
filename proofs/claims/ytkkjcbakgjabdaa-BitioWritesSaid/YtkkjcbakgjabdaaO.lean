/- The bytes of the document's writer of layer 3 (bitio). -/
import Derived.Test.YtkkjcbakgjabdaaN
namespace Go.Proofs.Ytkkjcbakgjabdaa
open Go.RowKit
theorem bytesOf_bit {N k m : Nat} (h : N < 2 ^ k) : (bytesOf N m).set (k / 8) (.int .u8 ((byteAt N (k / 8) + 2 ^ (k % 8) : Nat) : Int)) = bytesOf (N + 2 ^ k) m := by
  apply List.ext_getElem?
  intro j
  rw [List.getElem?_set]
  simp only [bytesOf, List.getElem?_map, List.length_map, List.length_range]
  by_cases hj : k / 8 = j
  · rw [if_pos hj]
    by_cases hm : j < m
    · rw [if_pos (hj ▸ hm), List.getElem?_range hm, Option.map_some, byteAt_bit h, if_pos hj.symm, hj]
    · rw [if_neg (hj ▸ hm), List.getElem?_eq_none (by simpa using hm)]; rfl
  · rw [if_neg hj]
    by_cases hm : j < m
    · rw [List.getElem?_range hm, Option.map_some, Option.map_some, byteAt_bit h, if_neg (Ne.symm hj)]
    · rw [List.getElem?_eq_none (by simpa using hm)]; rfl
theorem mod_bit (N k : Nat) : N % 2 ^ (k + 1) = N % 2 ^ k + 2 ^ k * (N / 2 ^ k % 2) := by rw [Nat.pow_succ, Nat.mod_mul]
theorem bytesOf_zero (m : Nat) : bytesOf 0 m = List.replicate m (.int .u8 0) := by
  unfold bytesOf byteAt
  apply List.ext_getElem (by simp)
  intro j h1 h2
  simp
set_option maxRecDepth 100000 in
set_option maxHeartbeats 1000000 in
theorem rbytes22 (w : World) (base p : Nat) (v : Value) (N L : Nat) (hw : Wf w base p v N L) (hL : L ≤ 1099511627776) :
    Calls Try.prog 22 #[.pointer (some ⟨p, 0, none⟩)] w fun e w' => ∃ v', e = .returned v' ∧ Below w.heap.size w w' ∧ w'.ownsRow w.heap.size 5 1 v' ((L + 7) / 8) (bytesOf N ((L + 7) / 8)) := by
  obtain ⟨A, cap, rfl, ha, _, _, _⟩ := row_arr (f := fun i => .bool (N.testBit i)) hw.row
  have HA := Lib.hid ha
  have HW := Lib.hid hw
  obtain ⟨c0, f0⟩ := one_at hw.blk
  clear hw ha
  obtain ⟨i0, hi0, hz0, hz1, hz2⟩ := info_parts info5
  obtain ⟨nb, hnb⟩ : ∃ nb : Nat, ((L : Int) + 7) / 8 = nb := ⟨(L + 7) / 8, by omega⟩
  have HN : Hid ((L + 7) / 8 = nb) := Lib.hid (by omega)
  rw [HN.out]
  have hnb1 : L ≤ 8 * nb := by omega
  have hnb2 : nb ≤ 1099511627776 := by omega
  go_enter Try.func22, Try.ntmps22
  go_wp2_with (at_make; refine wpList_make_full _ rfl _ _ 22 rfl w.heap.size 5 i0 (.int .u8 0) 1 Try.underlying22 hi0 hz0 hz1 _ _ _ _ nb rfl rfl hnb hnb (by rw [hz2]; omega) (by unfold maxLen; omega) (Nat.le_refl _) ?_; intro w1 hown hg; have HO := Lib.hid hown; have HB := Lib.hid ((Below.refl _ w).grown hg (Nat.le_refl _) (by simp)); clear hown hg)
  go_loopw [4] (fun i wr => ∃ k : Nat, k ≤ L ∧ i = .int .i64 k ∧ wr.ownsRow w.heap.size 5 1 (.slice (some ⟨w.heap.size, 0, none⟩) nb nb) nb (bytesOf (N % 2 ^ k) nb) ∧ Below w.heap.size w wr) (fun i _ => L - (intOf i).toNat)
  case atStart =>
    refine ⟨0, Nat.zero_le _, rfl, ?_, HB.out⟩
    have h := HO.out
    have e : (madeCells (Value.int .u8 0).cells (nb * 1)).toList = bytesOf (N % 2 ^ 0) nb := by
      rw [Nat.pow_zero, Nat.mod_one, bytesOf_zero]
      apply List.ext_getElem (by simp [madeCells])
      intro j h1 h2
      simp [madeCells, Value.cells, Nat.mod_one]
    rw [e] at h
    exact h
  case round =>
    clear HO HB c0 f0
    obtain ⟨k, hk, rfl, hown, hbel⟩ := hrel
    have HO := Lib.hid hown
    have HB := Lib.hid hbel
    have hblk := (hbel.block p (heap_lt HW.out.blk)).trans HW.out.blk
    obtain ⟨c0, f0⟩ := one_at hblk
    clear hown hbel hblk
    by_cases hlt : k < L
    · obtain ⟨b, off, rfl, _, hc⟩ := HA.out.below HB.out (Nat.le_refl _) (by omega)
      have hck : wr.cell? ⟨b, off + k, none⟩ = some (.bool (N.testBit k)) := hc k hlt
      have i1 : (0 : Int) ≤ k := by omega
      have i2 : (k : Int) < L := by omega
      obtain ⟨a, ha⟩ : ∃ a : Nat, (k : Int) / 8 = a := ⟨k / 8, by omega⟩
      obtain ⟨r, hr⟩ : ∃ r : Nat, (k : Int) % 8 = r := ⟨k % 8, by omega⟩
      have HE : Hid (k / 8 = a ∧ k % 8 = r) := Lib.hid ⟨by omega, by omega⟩
      have ha2 : a < nb := by omega
      have hr2 : r < 8 := by omega
      have hlk : N % 2 ^ k < 2 ^ k := Nat.mod_lt _ (Nat.pow_pos (by omega))
      have hx := byte_lt hlk
      rw [HE.out.1, HE.out.2] at hx
      have eo := or_byte hx hr2
      have hca : wr.cell? ⟨w.heap.size, a, none⟩ = some (.int .u8 (byteAt (N % 2 ^ k) a : Nat)) := by
        rw [HO.out.cellAt a (by simp; omega)]
        simp [bytesOf, ha2]
      have hfa : wr.frozen? ⟨w.heap.size, a, none⟩ = false := HO.out.frozenAt a
      have HX : Hid ((bytesOf (N % 2 ^ k) nb).set a (.int .u8 ((byteAt (N % 2 ^ k) a + 2 ^ r : Nat) : Int)) = bytesOf (N % 2 ^ k + 2 ^ k) nb) := Lib.hid (by
        have := bytesOf_bit (m := nb) hlk
        rwa [HE.out.1, HE.out.2] at this)
      obtain ⟨x, hxx⟩ : ∃ x, x = byteAt (N % 2 ^ k) a := ⟨_, rfl⟩
      rw [← hxx] at hca eo hx HX
      obtain ⟨z, hz⟩ : ∃ z, z = x + 2 ^ r := ⟨_, rfl⟩
      rw [← hz] at eo HX
      clear hxx hc hx hlk hz
      have MB := Lib.hid (mod_bit N k)
      have TB := Lib.hid (bit_div N k)
      cases ht : N.testBit k
      · rw [ht] at hck
        have HT := Lib.hid ht
        clear ht
        go_wp2_with fail
        go_roundw
        case rel =>
          refine ⟨k + 1, by omega, by go_num, ?_, HB.out⟩
          have h0 : N / 2 ^ k % 2 = 0 := by
            have h := TB.out
            rw [HT.out] at h
            have h2 := Nat.mod_lt (N / 2 ^ k) (show 2 > 0 by omega)
            by_cases h3 : N / 2 ^ k % 2 = 1
            · rw [h3] at h; simp at h
            · omega
          rw [MB.out, h0, Nat.mul_zero, Nat.add_zero]
          exact HO.out
        case measure => simp [intOf]; omega
      · rw [ht] at hck
        have HT := Lib.hid ht
        clear ht
        go_wp2_with fail
        go_roundw
        case rel =>
          have h1 : N / 2 ^ k % 2 = 1 := by
            have h := TB.out
            rw [HT.out] at h
            simpa using h.symm
          have hs := HO.out.stored a (.int .u8 (z : Nat))
          rw [HX.out] at hs
          refine ⟨k + 1, by omega, by go_num, ?_, HB.out.grown hs.2 HB.out.size fun k e => by cases e; exact Nat.le_refl _⟩
          rw [MB.out, h1, Nat.mul_one]
          exact hs.1
        case measure => simp [intOf]; omega
    · obtain rfl : k = L := by omega
      go_wp2_with fail
      go_ret
      refine ⟨_, rfl, HB.out, ?_⟩
      have h := HO.out
      rw [Nat.mod_eq_of_lt HW.out.lt] at h
      exact h
end Go.Proofs.Ytkkjcbakgjabdaa
