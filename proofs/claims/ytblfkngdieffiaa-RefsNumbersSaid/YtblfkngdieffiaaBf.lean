/- Layer 24 (refs): the document's order of keys. -/
import Derived.Test.YtblfkngdieffiaaRb0
import Derived.Test.YtblfkngdieffiaaApp
import Derived.BigQuiet
namespace Go.Proofs.Ytblfkngdieffiaa
open Go.RowKit Go.Maps Go.WideMaps
theorem kLt_at : ∀ (k : Nat) (a b : List Int) (x y : Int), (∀ j, j < k → a[j]? = b[j]?) → a[k]? = some x → b[k]? = some y → x ≠ y → kLt a b = decide (x < y)
  | 0, a0 :: ar, b0 :: br, x, y, _, h1, h2, hne => by
    simp at h1 h2
    subst h1 h2
    unfold kLt
    rw [cmpL]
    by_cases h : a0 < b0
    · rw [if_pos h]; simp [h]
    · rw [if_neg h, if_pos (by omega)]; simp [h]
  | 0, [], _, _, _, _, h1, _, _ => by simp at h1
  | 0, _ :: _, [], _, _, _, _, h2, _ => by simp at h2
  | k + 1, [], _, _, _, _, h1, _, _ => by simp at h1
  | k + 1, _ :: _, [], _, _, _, _, h2, _ => by simp at h2
  | k + 1, a0 :: ar, b0 :: br, x, y, h, h1, h2, hne => by
    have e := h 0 (by omega)
    simp at e
    subst e
    have ih := kLt_at k ar br x y (fun j hj => by have := h (j + 1) (by omega); simpa using this) (by simpa using h1) (by simpa using h2) hne
    unfold kLt at ih ⊢
    rw [cmpL, if_neg (by omega), if_neg (by omega)]
    exact ih
theorem key_cell {w : World} {b : Nat} {ks : List Int} {t : TypeId} {z : Nat × Nat} (h : w.heap[b]? = some (.cells (u8l ks).toArray t z)) (hk : KeyOk 32 ks) {k : Nat} (hlt : k < 32) : ∃ x, ks[k]? = some x ∧ w.cell? ⟨b, k, none⟩ = some (.int .u8 x) := by
  have hl : k < ks.length := by rw [hk.len]; exact hlt
  refine ⟨ks[k], List.getElem?_eq_getElem hl, ?_⟩
  have := range_of h k (.int .u8 ks[k]) (by rw [u8l, List.getElem?_map, List.getElem?_eq_getElem hl]; rfl)
  rwa [Nat.zero_add] at this
set_option maxRecDepth 100000 in
theorem before32 (ka kb : List Int) (ha : KeyOk 32 ka) (hb : KeyOk 32 kb) (w : World) : Calls Try.prog 32 #[kv ka, kv kb] w fun e w' => e = .returned (.bool (kLt ka kb)) ∧ Below w.heap.size w w' := by
  have HKA := Lib.hid ha
  have HKB := Lib.hid hb
  change Calls Try.prog 32 #[.agg (u8l ka).toArray, .agg (u8l kb).toArray] w _
  obtain ⟨a, hca⟩ : ∃ a, a = (u8l ka).toArray := ⟨_, rfl⟩
  obtain ⟨b, hcb⟩ : ∃ b, b = (u8l kb).toArray := ⟨_, rfl⟩
  rw [← hca, ← hcb]
  have HA := Lib.hid hca
  have HB := Lib.hid hcb
  clear hca hcb ha hb
  go_enter Try.func32, Try.ntmps32
  go_wp2_with fail
  obtain ⟨w2, hw2⟩ : ∃ w2, w2 = (w.alloc (.cells a 35)).alloc (.cells b 35) := ⟨_, rfl⟩
  rw [← hw2]
  have h1 : w2.heap[w.heap.size]? = some (.cells a 35) := by rw [hw2]; exact heap_old (heap_new w _)
  have h2 : w2.heap[w.heap.size + 1]? = some (.cells b 35) := by rw [hw2]; exact heap_new_at _ (by simp)
  rw [HA.out] at h1
  rw [HB.out] at h2
  have HC1 := Lib.hid h1
  have HC2 := Lib.hid h2
  have HBL : Hid (∀ q, Below w.heap.size w (w2.drewN q)) := Lib.hid fun q => by
    have : Below w.heap.size w w2 := by rw [hw2]; exact ((Below.refl _ w).alloc (Nat.le_refl _) _).alloc (by simp) _
    exact ⟨this.os, this.tape, this.output, this.size, this.block⟩
  clear h1 h2 hw2
  go_loopw [5] (fun i wr => ∃ k q : Nat, k ≤ 32 ∧ i = .int .i64 k ∧ (∀ j, j < k → ka[j]? = kb[j]?) ∧ wr = w2.drewN q) (fun i _ => 32 - (intOf i).toNat)
  case atStart => exact ⟨0, 0, by omega, rfl, fun j h => absurd h (by omega), rfl⟩
  case round =>
    obtain ⟨k, q, hk, rfl, hj, rfl⟩ := hrel
    have HJ := Lib.hid hj
    clear hj
    by_cases hlt : k < 32
    · obtain ⟨x, hx, cx⟩ := key_cell HC1.out HKA.out hlt
      obtain ⟨y, hy, cy⟩ := key_cell HC2.out HKB.out hlt
      have cx2 : ∀ q, (w2.drewN q).cell? ⟨w.heap.size, k, none⟩ = some (.int .u8 x) := fun q => cx
      have cy2 : ∀ q, (w2.drewN q).cell? ⟨w.heap.size + 1, k, none⟩ = some (.int .u8 y) := fun q => cy
      have HX := Lib.hid hx
      have HY := Lib.hid hy
      have i1 : (0 : Int) ≤ k := by omega
      have i2 : (k : Int) < 32 := by omega
      clear cx cy hx hy
      by_cases hxy : x = y
      · have HJ2 : Hid (∀ j, j < k + 1 → ka[j]? = kb[j]?) := Lib.hid fun j hj => by
          rcases Nat.lt_or_ge j k with h | h
          · exact HJ.out j h
          · obtain rfl : j = k := by omega
            rw [HX.out, HY.out, hxy]
        subst hxy
        go_wp2_with fail
        go_quiet (fail)
        go_wp2_with fail
        go_roundw
        case rel => exact ⟨k + 1, _, by omega, by go_num, HJ2.out, rfl⟩
        case measure => simp [intOf]; omega
      · have HLT := Lib.hid (kLt_at k ka kb x y HJ.out HX.out HY.out hxy)
        have hne : (x != y) = true := by simpa using hxy
        have hne2 : (x == y) = false := by simpa using hxy
        clear hxy
        go_wp2_with fail
        go_quiet (fail)
        go_wp2_with fail
        go_quiet (fail)
        go_wp2_with fail
        go_ret
        refine ⟨by rw [HLT.out]; rfl, ?_⟩
        rw [World.drewN_drewN, World.drewN_drewN]
        exact HBL.out _
    · obtain rfl : k = 32 := by omega
      have HEQ : Hid (kLt ka kb = false) := Lib.hid (by
        have : ka = kb := List.ext_getElem? fun j => by
          rcases Nat.lt_or_ge j 32 with h | h
          · exact HJ.out j h
          · rw [List.getElem?_eq_none (by rw [HKA.out.len]; exact h), List.getElem?_eq_none (by rw [HKB.out.len]; exact h)]
        rw [this]
        exact kLt_irrefl kb)
      clear hlt
      go_wp2_with fail
      go_ret
      exact ⟨by rw [HEQ.out]; rfl, HBL.out _⟩
end Go.Proofs.Ytblfkngdieffiaa
