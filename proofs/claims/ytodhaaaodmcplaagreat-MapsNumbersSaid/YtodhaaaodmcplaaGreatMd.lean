/- Layer 23 (maps): sectors taken out one by one (the law MapsClear), in plain Lean. -/
import Derived.Test.YtodhaaaodmcplaaGreatMa
set_option linter.all false
namespace Go.Proofs.YtodhaaaodmcplaaGreat
open Go.RowKit
/-- A mask behind the first k sectors of a unit, of which lo .. hi - 1 are taken out. -/
def gK (m : Int) (lo hi k : Nat) : Int := if lo < min hi k then clrV m (bitsV lo (min hi k)) else m
theorem gK_zero (m : Int) (lo hi : Nat) : gK m lo hi 0 = m := by unfold gK; rw [Nat.min_zero, if_neg (by omega)]
theorem gK_out {m : Int} {lo hi k : Nat} (h : ¬ (lo ≤ k ∧ k < hi)) : gK m lo hi (k + 1) = gK m lo hi k := by
  unfold gK
  by_cases h1 : k < hi
  · have h2 : k < lo := by omega
    rw [if_neg (by omega), if_neg (by omega)]
  · rw [show min hi (k + 1) = hi by omega, show min hi k = hi by omega]
theorem gK_in {m : Int} (hm : 0 ≤ m ∧ m ≤ 255) {lo hi k : Nat} (h1 : lo ≤ k) (h2 : k < hi) (h3 : k < 8) : gK m lo hi (k + 1) = clrV (gK m lo hi k) (bitsV k (k + 1)) := by
  unfold gK
  rw [show min hi (k + 1) = k + 1 by omega, show min hi k = k by omega, if_pos (by omega)]
  by_cases h : lo < k
  · rw [if_pos h, clr_comp hm (by omega) (by omega) (by omega)]
  · rw [if_neg h, show lo = k by omega]
theorem gK_bd {m : Int} (hm : 0 ≤ m ∧ m ≤ 255) {lo hi k : Nat} (h3 : k ≤ 8) : 0 ≤ gK m lo hi k ∧ gK m lo hi k ≤ 255 := by
  unfold gK
  split
  · exact clr_bd hm (by omega) (by omega)
  · exact hm
theorem clear_mask (F : Mp1) (p q u : Nat) : (clearF F p q u).1.m = gK (F u).1.m (p - 8 * u) (q - 8 * u) 8 := by
  unfold clearF gK
  by_cases h : p - 8 * u < min (q - 8 * u) 8
  · rw [if_pos h, if_pos h, clrS_m (by omega) (by omega)]
  · rw [if_neg h, if_neg h]
theorem clear_same (F : Mp1) (p q u : Nat) (h0 : gK (F u).1.m (p - 8 * u) (q - 8 * u) 8 ≠ 0) : (clearF F p q u).1 = ⟨(F u).1.k, (F u).1.o, gK (F u).1.m (p - 8 * u) (q - 8 * u) 8⟩ := by
  unfold clearF gK at *
  by_cases h : p - 8 * u < min (q - 8 * u) 8
  · rw [if_pos h] at h0 ⊢
    rw [if_pos h]
    unfold clrS
    rw [dif_pos ⟨by omega, by omega, h0⟩]
  · rw [if_neg h] at h0 ⊢
    rw [if_neg h]
/-- A unit without a slice has none when sectors are taken out. -/
theorem gK_none {lo hi k : Nat} (h : k ≤ 8) : gK 0 lo hi k = 0 := by
  unfold gK
  split
  · exact clr_zero (by omega) (by omega)
  · rfl
end Go.Proofs.YtodhaaaodmcplaaGreat
