/- Layer 18 (usage): how many are not used at all; the program's and the document's. -/
import Derived.Test.YthhmhcfahlnmpaaKm
namespace Go.Proofs.Ythhmhcfahlnmpaa
open Go.RowKit
def freeN (f : Nat → Int) : Nat → Nat
  | 0 => 0
  | n + 1 => freeN f n + if f n = 0 then 1 else 0
theorem freeN_le (f : Nat → Int) : ∀ n, freeN f n ≤ n
  | 0 => Nat.le_refl _
  | n + 1 => by have := freeN_le f n; unfold freeN; split <;> omega
theorem freeN_all {f : Nat → Int} : ∀ {n}, (∀ i, i < n → f i = 0) → freeN f n = n
  | 0, _ => rfl
  | n + 1, h => by unfold freeN; rw [freeN_all fun i hi => h i (by omega), if_pos (h n (by omega))]
theorem free14 (f : Nat → Int) (A : Option Addr) (n c B : Nat) (w : World) (hn : n ≤ 17592186044400) (ha : Arr w B A n fun k => .int .i64 (f k)) :
    Calls Try.prog 14 #[.slice A n c] w fun e w' => e = .returned (.int .i64 (freeN f n : Nat)) ∧ w = w' := by
  have HA := Lib.hid ha
  clear ha
  go_enter Try.func14, Try.ntmps14
  go_wp2_with fail
  go_loop [3, 8] (fun v i => ∃ k : Nat, k ≤ n ∧ i = .int .i64 k ∧ v = .int .i64 (freeN f k : Nat)) (fun _ i => n - (intOf i).toNat)
  case atStart => exact ⟨0, Nat.zero_le _, rfl, rfl⟩
  case round =>
    obtain ⟨k, hk, rfl, rfl⟩ := hrel
    have hf := freeN_le f k
    obtain ⟨q, hq⟩ : ∃ q, freeN f k = q := ⟨_, rfl⟩
    rw [hq] at hf ⊢
    have HQ := Lib.hid hq
    clear hq
    by_cases hlt : k < n
    · obtain ⟨b, off, rfl, hb, hc⟩ := HA.out (by omega)
      have hck : w.cell? ⟨b, off + k, none⟩ = some (.int .i64 (f k)) := hc k hlt
      clear hc
      by_cases h0 : f k = 0
      · have HS : Hid (freeN f (k + 1) = q + 1) := Lib.hid (by rw [freeN, HQ.out, if_pos h0])
        rw [h0] at hck
        clear h0
        go_wp2_with fail
        go_round
        case rel => exact ⟨k + 1, by omega, by go_num, by rw [HS.out]; go_num⟩
        case measure => simp [intOf]; omega
      · have HS : Hid (freeN f (k + 1) = q) := Lib.hid (by rw [freeN, HQ.out, if_neg h0]; rfl)
        have h1 : (f k == 0) = false := by simpa using h0
        go_wp2_with fail
        go_round
        case rel => exact ⟨k + 1, by omega, by go_num, by rw [HS.out]⟩
        case measure => simp [intOf]; omega
    · obtain rfl : k = n := by omega
      go_wp2_with fail
      go_ret
      exact ⟨ret_int (by rw [HQ.out]), rfl⟩
theorem free15 (f : Nat → Int) (A : Option Addr) (n c B : Nat) (w : World) (hn : n ≤ 17592186044400) (ha : Arr w B A n fun k => .int .i64 (f k)) :
    Calls Try.prog 15 #[.slice A n c] w fun e w' => e = .returned (.int .i64 (freeN f n : Nat)) ∧ w = w' := by
  have HA := Lib.hid ha
  clear ha
  go_enter Try.func15, Try.ntmps15
  go_wp2_with fail
  go_loop [3, 4] (fun v i => ∃ k : Nat, k ≤ n ∧ i = .int .i64 k ∧ v = .int .i64 (freeN f k : Nat)) (fun _ i => n - (intOf i).toNat)
  case atStart => exact ⟨0, Nat.zero_le _, rfl, rfl⟩
  case round =>
    obtain ⟨k, hk, rfl, rfl⟩ := hrel
    have hf := freeN_le f k
    obtain ⟨q, hq⟩ : ∃ q, freeN f k = q := ⟨_, rfl⟩
    rw [hq] at hf ⊢
    have HQ := Lib.hid hq
    clear hq
    by_cases hlt : k < n
    · obtain ⟨b, off, rfl, hb, hc⟩ := HA.out (by omega)
      have hck : w.cell? ⟨b, off + k, none⟩ = some (.int .i64 (f k)) := hc k hlt
      clear hc
      by_cases h0 : f k = 0
      · have HS : Hid (freeN f (k + 1) = q + 1) := Lib.hid (by rw [freeN, HQ.out, if_pos h0])
        rw [h0] at hck
        clear h0
        go_wp2_with fail
        go_round
        case rel => exact ⟨k + 1, by omega, by go_num, by rw [HS.out]; go_num⟩
        case measure => simp [intOf]; omega
      · have HS : Hid (freeN f (k + 1) = q) := Lib.hid (by rw [freeN, HQ.out, if_neg h0]; rfl)
        have h1 : (f k == 0) = false := by simpa using h0
        go_wp2_with fail
        go_round
        case rel => exact ⟨k + 1, by omega, by go_num, by rw [HS.out]⟩
        case measure => simp [intOf]; omega
    · obtain rfl : k = n := by omega
      go_wp2_with fail
      go_ret
      exact ⟨ret_int (by rw [HQ.out]), rfl⟩
end Go.Proofs.Ythhmhcfahlnmpaa
