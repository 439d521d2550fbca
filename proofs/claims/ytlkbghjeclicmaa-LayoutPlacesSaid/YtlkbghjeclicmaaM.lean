/- Part of the proof of the statements of layer 11 (layout): a row of truths is covered piece by piece. No condition. -/
import Derived.Test.YtlkbghjeclicmaaI
namespace Go.Proofs.Ytlkbghjeclicmaa
open Go.RowKit
def bcs (N : Nat) (bs : Nat → Bool) : Array Value := ((List.range N).map fun j => Value.bool (bs j)).toArray
theorem bcs_size (N : Nat) (bs : Nat → Bool) : (bcs N bs).size = N := by simp [bcs]
theorem bcs_at {N : Nat} {bs : Nat → Bool} {j : Nat} (h : j < N) : (bcs N bs)[j]? = some (.bool (bs j)) := by simp [bcs, h]
theorem bcs_ext {N : Nat} {cs : Array Value} {bs : Nat → Bool} (hs : cs.size = N) (h : ∀ j, j < N → cs[j]? = some (.bool (bs j))) : cs = bcs N bs := by
  apply Array.ext_getElem?
  intro i
  by_cases hi : i < N
  · rw [h i hi, bcs_at hi]
  · rw [Array.getElem?_eq_none (by omega), Array.getElem?_eq_none (by rw [bcs_size]; omega)]
def CoverPost (gb N : Nat) (bs : Nat → Bool) (w : World) (e : Ending) (w' : World) : Prop :=
  e = .returned (.bool true) ∧ Below gb w w' ∧ w'.heap[gb]? = some (.cells (bcs N bs) 4 (0, 0))
set_option maxHeartbeats 2000000 in
theorem cover26 (N gb : Nat) (bs bs' : Nat → Bool) (a n : Int) (w : World) (hN : N ≤ 262144) (h0 : 0 ≤ a) (h1 : 0 ≤ n) (h2 : a + n ≤ N) (hfree : ∀ j : Nat, a ≤ (j : Int) → (j : Int) < a + n → bs j = false)
    (hbs : ∀ j : Nat, j < N → bs' j = (bs j || (decide (a ≤ (j : Int)) && decide ((j : Int) < a + n)))) (hblk : w.heap[gb]? = some (.cells (bcs N bs) 4 (0, 0))) :
    Calls Try.prog 26 #[.slice (some ⟨gb, 0, none⟩) N N, .int .i64 a, .int .i64 n] w (CoverPost gb N bs' w) := by
  obtain ⟨a, rfl⟩ := Int.eq_ofNat_of_zero_le h0
  obtain ⟨n, rfl⟩ := Int.eq_ofNat_of_zero_le h1
  have HF := Lib.hid hfree
  have HS := Lib.hid hbs
  have HB := Lib.hid hblk
  clear hfree hbs hblk
  go_enter Try.func26, Try.ntmps26
  go_wp2_with fail
  go_loopw [7] (fun i wr => ∃ k : Nat, k ≤ n ∧ i = .int .i64 k ∧ Below gb w wr ∧ wr.heap[gb]? = some (.cells (bcs N (fun j => bs j || (decide (a ≤ j) && decide (j < a + k)))) 4 (0, 0))) (fun i _ => n - (intOf i).toNat)
  case atStart =>
    refine ⟨0, Nat.zero_le _, rfl, Below.refl _ _, ?_⟩
    rw [HB.out]
    congr 2
    refine bcs_ext (bcs_size _ _) (fun j hj => ?_)
    rw [bcs_at hj]
    congr 2
    have e : (decide (a ≤ j) && decide (j < a + 0)) = false := by simp
    rw [e, Bool.or_false]
  case round =>
    obtain ⟨k, hk, rfl, hB, hb⟩ := hrel
    have HK := Lib.hid hb
    clear hb
    by_cases hlt : k < n
    · have hv := HF.out (a + k) (by omega) (by omega)
      have hc : wr.cell? ⟨gb, a + k, none⟩ = some (.bool false) := block_cell HK.out (a + k) _ (by rw [bcs_at (by omega)]; simp [hv])
      have hf : wr.frozen? ⟨gb, a + k, none⟩ = false := by simp [World.frozen?, HK.out]
      have i1 : (0 : Int) ≤ (a : Int) + k ∧ (a : Int) + k < N := by omega
      have d1 : decide ((a : Int) < 0) = false := by simp
      have d2 : decide ((N : Int) ≤ (a : Int) + k) = false := by simp; omega
      clear hv
      go_wp2_with fail
      go_roundw
      case rel =>
        refine ⟨k + 1, by omega, by go_num, hB.setCell (p := ⟨gb, a + k, none⟩) (Nat.le_refl _) _, ?_⟩
        have : (wr.setCell ⟨gb, a + k, none⟩ (.bool true)).heap[gb]? = some (.cells ((bcs N (fun j => bs j || (decide (a ≤ j) && decide (j < a + k)))).setIfInBounds (a + k) (.bool true)) 4 (0, 0)) := by
          simp [World.setCell, Array.getElem?_modify, HK.out]
        rw [this]
        congr 2
        refine bcs_ext (by simp [bcs_size]) (fun j hj => ?_)
        rw [Array.getElem?_setIfInBounds]
        by_cases e : a + k = j
        · subst e
          simp [bcs_size, hj]
        · rw [if_neg e, bcs_at hj]
          congr 2
          have : (j < a + (k + 1)) ↔ (j < a + k) := by omega
          simp [this]
      case measure => simp [intOf]; omega
    · obtain rfl : k = n := by omega
      go_wp2_with fail
      go_ret
      refine ⟨rfl, hB, ?_⟩
      rw [HK.out]
      congr 2
      refine bcs_ext (bcs_size _ _) (fun j hj => ?_)
      rw [bcs_at hj, HS.out j hj]
      congr 3
      have e1 : decide ((a : Int) ≤ (j : Int)) = decide (a ≤ j) := by simp
      have e2 : decide ((j : Int) < (a : Int) + (k : Int)) = decide (j < a + k) := by simp; omega
      rw [e1, e2]
end Go.Proofs.Ytlkbghjeclicmaa
