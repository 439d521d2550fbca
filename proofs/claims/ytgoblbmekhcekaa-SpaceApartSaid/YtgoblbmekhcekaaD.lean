/- What Free, New, Back and Settle of layer 19 (space) compute. No condition but where a space lies. -/
import Derived.Test.YtgoblbmekhcekaaC
import Derived.Test.YtgoblbmekhcekaaLE
import Derived.OwnWalk
namespace Go.Proofs.Ytgoblbmekhcekaa
open Go.RowKit
def frI (fr : List Bool) (k : Nat) : Int := if fr.getD k false then 0 else 1
theorem cntZ_fr (fr : List Bool) : ∀ k, k ≤ fr.length → cntZ (frI fr) k = (fr.take k).count true
  | 0, _ => by simp [cntZ]
  | k + 1, h => by
    rw [cntZ, cntZ_fr fr k (by omega), List.take_add_one, List.getElem?_eq_getElem (by omega), Option.toList_some, List.count_append]
    congr 1
    have : fr.getD k false = fr[k] := by rw [List.getD_eq_getElem?_getD, List.getElem?_eq_getElem (by omega)]; rfl
    rw [frI, this]
    cases fr[k] <;> rfl
theorem own_blk {w : World} {base : Nat} {e : TypeId} {g n : Nat} {xs : List Value} (h : w.ownsRow base e 1 (.slice (some ⟨g, 0, none⟩) n n) n xs) : w.heap[g]? = some (.cells xs.toArray e (0, 0)) := by
  rcases h.2 with ⟨h, _⟩ | ⟨g2, cap, cur, h, _, hh, _, _, hsz, htk⟩
  · simp at h
  · simp only [Value.slice.injEq, Option.some.injEq, Addr.mk.injEq] at h
    obtain ⟨⟨rfl, _⟩, _, rfl⟩ := h
    rw [hh, ← htk, List.take_of_length_le (by simp; omega)]
theorem info3 : (Try.prog.info? 3).map (fun i => (i.zero, i.size, i.bytes)) = some (some (.int .i64 0), 1, 8) := by kernel_rfl
/-- Counts of the first k segments: which are free. -/
def cntC (fr : List Bool) (k : Nat) : List Value := (List.range fr.length).map fun j => .int .i64 (if j < k then frI fr j else 0)
theorem cntC_zero (fr : List Bool) : cntC fr 0 = List.replicate fr.length (.int .i64 0) := by
  refine List.ext_getElem? fun j => ?_
  simp only [cntC, List.getElem?_map, List.getElem?_replicate]
  by_cases h : j < fr.length
  · simp [h]
  · simp [h]
theorem cntC_at {fr : List Bool} {k j : Nat} (h : j < fr.length) : (cntC fr k)[j]? = some (.int .i64 (if j < k then frI fr j else 0)) := by simp [cntC, h]
theorem cntC_step {fr : List Bool} {k : Nat} (h : k < fr.length) : (cntC fr k).set k (.int .i64 (frI fr k)) = cntC fr (k + 1) := by
  refine List.ext_getElem? fun j => ?_
  rw [List.getElem?_set]
  by_cases hj : j < fr.length
  · rw [cntC_at hj, cntC_at hj]
    by_cases e : k = j
    · subst e; simp [cntC, h]
    · rw [if_neg e]
      by_cases h2 : j < k
      · rw [if_pos h2, if_pos (by omega)]
      · rw [if_neg h2, if_neg (by omega)]
  · have l : ∀ q, (cntC fr q).length = fr.length := fun q => by simp [cntC]
    rw [if_neg (by omega), List.getElem?_eq_none (by rw [l]; omega), List.getElem?_eq_none (by rw [l]; omega)]
theorem cntC_same {fr : List Bool} {k : Nat} (h : k < fr.length) (h0 : frI fr k = 0) : cntC fr k = cntC fr (k + 1) := by
  rw [← cntC_step h, h0]
  refine (List.ext_getElem? fun j => ?_).symm
  rw [List.getElem?_set]
  by_cases e : k = j
  · subst e
    rw [cntC_at h]; simp [cntC, h]
  · rw [if_neg e]
set_option maxRecDepth 100000 in
set_option maxHeartbeats 2000000 in
theorem free10 (w : World) (b : Nat) (g : Geo) (n : Nw) (was : List Nw) (row : Value) (h : Sp w b g n was row) : Calls Try.prog 10 #[.pointer (some ⟨b, 0, none⟩)] w fun e w' => e = .returned (.int .i64 (n.fr.count true : Nat)) ∧ Below w.heap.size w w' := by
  obtain ⟨c0, c1, c2, c3, c4, c5, c6, c7⟩ := sp_cells h.blk h.le
  have hle := h.le
  have hS := h.fine.s1
  obtain ⟨S, hSe⟩ : ∃ S, S = n.fr.length := ⟨_, rfl⟩
  have hg : g.S = S := by rw [hSe]; exact h.ok.len.symm
  rw [hg] at c3 hS
  rw [← hSe] at hle
  have HB := Lib.hid h.blk
  have HS := Lib.hid hSe
  obtain ⟨i0, hi, hz0, hz1, hz2⟩ := infoParts info3
  clear h hg hSe c0 c1 c2 c4 c5 c6 c7
  have HI := Lib.hid (And.intro hi (And.intro hz0 (And.intro hz1 hz2)))
  clear hi hz0 hz1 hz2
  go_enter Try.func10, Try.ntmps10
  go_wp2_with first
    | (go_at_call 30; refine (there_t b S _ c3 (by omega)).mono ?_; rintro e w1 ⟨rfl, rfl⟩)
    | (at_make; refine wpList_make_full _ rfl _ _ 24 rfl w.heap.size 3 i0 (.int .i64 0) 1 Try.underlying24 HI.out.1 HI.out.2.1 HI.out.2.2.1 _ _ _ _ S rfl rfl (by rfl) (by rfl) (by rw [HI.out.2.2.2]; omega) (by unfold maxLen; omega) (Nat.le_refl _) ?_; intro w2 hown2 hg2)
  have hb2 : Below w.heap.size w w2 := (Below.refl _ w).grown hg2 (Nat.le_refl _) (by simp)
  have hk2 := own_blk hown2
  have e2 : (madeCells (Value.int .i64 0).cells (S * 1)).toList = cntC n.fr 0 := by
    rw [Nat.mul_one, cntC_zero, ← HS.out]
    exact toList_madeCells_one _ _
  rw [e2] at hk2
  obtain ⟨q, hq⟩ : ∃ q, q = w.heap.size := ⟨_, rfl⟩
  rw [← hq] at hk2 ⊢
  have HW : Hid (w2.heap[q]? = some (.cells (cntC n.fr 0).toArray 3 (0, 0)) ∧ Below w.heap.size w w2) := Lib.hid ⟨hk2, hb2⟩
  have HQ := Lib.hid hq
  clear hown2 hg2 hb2 hk2 e2 hq c3
  go_loopw [16] (fun i wr => ∃ k : Nat, k ≤ S ∧ i = .int .i64 k ∧ wr.heap[q]? = some (.cells (cntC n.fr k).toArray 3 (0, 0)) ∧ Below w.heap.size w wr) (fun i _ => S - (intOf i).toNat)
  case atStart => exact ⟨0, Nat.zero_le _, rfl, HW.out⟩
  case round =>
    clear HW
    obtain ⟨k, hk, rfl, hb⟩ := hrel
    have H := Lib.hid hb
    clear hb
    by_cases hlt : k < S
    · have hlf : k < n.fr.length := by have := HS.out; omega
      have hle2 : n.fr.length ≤ 256 := by have := HS.out; omega
      have hbl := H.out.2.block b (heap_lt HB.out)
      have hu := sp_used (hbl.trans HB.out) hle2 k hlf
      have hcc := block_cell H.out.1 k _ (by rw [List.getElem?_toArray]; exact cntC_at hlf)
      have hfz : wr.frozen? ⟨q, k, none⟩ = false := frozen_of_row wr q k _ _ H.out.1
      obtain ⟨x, hx⟩ : ∃ x, x = n.fr[k] := ⟨_, rfl⟩
      rw [← hx] at hu
      have hfi : frI n.fr k = if x then 0 else 1 := by
        rw [frI, List.getD_eq_getElem?_getD, List.getElem?_eq_getElem hlf, Option.getD_some, ← hx]
      have HF := Lib.hid (And.intro hlf hfi)
      have j1 : (0 : Int) ≤ k := by omega
      have j2 : (k : Int) < 256 := by omega
      have j3 : k < 256 := by omega
      clear hx hbl hlf hfi hle2
      cases x
      · simp only [Bool.not_false] at hu
        go_wp2_with fail
        go_roundw
        case rel =>
          refine ⟨k + 1, by omega, by go_num, ?_, H.out.2.setCell (by have := HQ.out; show w.heap.size ≤ q; omega) _⟩
          rw [set_blk H.out.1]
          have e := cntC_step HF.out.1
          rw [HF.out.2] at e
          rw [← e]; rfl
        case measure => simp [intOf]; omega
      · simp only [Bool.not_true] at hu
        go_wp2_with fail
        go_roundw
        case rel =>
          refine ⟨k + 1, by omega, by go_num, ?_, H.out.2⟩
          rw [← cntC_same HF.out.1 HF.out.2]; exact H.out.1
        case measure => simp [intOf]; omega
    · obtain rfl : k = S := by omega
      have ha : Arr wr wr.heap.size (some ⟨q, 0, none⟩) k fun j => .int .i64 (frI n.fr j) := Arr.ofBlock k _ H.out.1 fun j hj => by
        rw [List.getElem?_toArray, cntC_at (by have := HS.out; omega), if_pos hj]
      have HA := Lib.hid ha
      clear ha
      go_wp2_with (go_at_call 31; refine (ufree31 (frI n.fr) _ k k _ _ (by omega) HA.out).mono ?_; rintro e w1 ⟨rfl, rfl⟩)
      go_ret
      refine ⟨ret_int ?_, H.out.2⟩
      rw [HS.out, cntZ_fr _ _ (Nat.le_refl _), List.take_length]
end Go.Proofs.Ytgoblbmekhcekaa
