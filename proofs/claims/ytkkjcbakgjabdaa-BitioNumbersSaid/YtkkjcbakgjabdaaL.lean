/- Bits of numbers, one by one (layer 3, bitio): plain laws. -/
import Derived.Test.YtkkjcbakgjabdaaI
namespace Go.Proofs.Ytkkjcbakgjabdaa
open Go.RowKit
theorem u8_bit {y r : Nat} (hy : y < 256) : bits .and .u8 ((y : Int) / (2 : Int) ^ r) 1 = ((y / 2 ^ r % 2 : Nat) : Int) := by
  rw [pow_cast, ← Int.natCast_ediv]
  have h : y / 2 ^ r ≤ y := Nat.div_le_self _ _
  rw [show (1 : Int) = ((1 : Nat) : Int) from rfl, u8_and_nat _ _ (by omega) (by omega), nat_mask1]
theorem u32_bit {y r : Nat} (hy : y < 4294967296) : bits .and .u32 ((y : Int) / (2 : Int) ^ r) 1 = ((y / 2 ^ r % 2 : Nat) : Int) := by
  rw [pow_cast, ← Int.natCast_ediv]
  have h : y / 2 ^ r ≤ y := Nat.div_le_self _ _
  rw [show (1 : Int) = ((1 : Nat) : Int) from rfl, u32_and_nat _ _ (by omega) (by omega), nat_mask1]
/-- A bit of a byte is a bit of the number. -/
theorem byte_bit (B i : Nat) : byteAt B (i / 8) / 2 ^ (i % 8) % 2 = B / 2 ^ i % 2 := by
  unfold byteAt
  have e1 : (256 : Nat) = 2 ^ (i % 8) * (2 * 2 ^ (7 - i % 8)) := by
    have h : (2 : Nat) * 2 ^ (7 - i % 8) = 2 ^ (8 - i % 8) := by rw [Nat.mul_comm, ← Nat.pow_succ]; congr 1; omega
    rw [h, ← Nat.pow_add, show i % 8 + (8 - i % 8) = 8 by omega]
  rw [e1, Nat.mod_mul_right_div_self, Nat.mod_mul_right_mod, Nat.div_div_eq_div_mul, ← Nat.pow_add, show 8 * (i / 8) + i % 8 = i by omega]
theorem bits_succ (B o k : Nat) : B / 2 ^ o % 2 ^ (k + 1) = B / 2 ^ o % 2 ^ k + 2 ^ k * (B / 2 ^ (o + k) % 2) := by
  rw [Nat.pow_succ, Nat.mod_mul, Nat.div_div_eq_div_mul, ← Nat.pow_add]
/-- One bit more, of those that are joined. -/
theorem or_bit {x k : Nat} (hx : x < 2 ^ k) (hk : k < 32) : bits BinOp.or .u32 (x : Int) ((2 : Int) ^ k % 4294967296) = ((x + 2 ^ k : Nat) : Int) := by
  have h1 : 2 ^ k ≤ 2147483648 := Nat.pow_le_pow_right (n := 2) (j := 31) (by omega) (by omega)
  have h2 : ((2 ^ k : Nat) : Int) % 4294967296 = ((2 ^ k : Nat) : Int) := by omega
  rw [pow_cast, h2, u32_or_nat _ _ (by omega) (by omega), Nat.or_comm]
  have := Nat.two_pow_add_eq_or_of_lt hx 1
  rw [Nat.mul_one] at this
  rw [← this, Nat.add_comm]
/-- The bits of a number, as cells. -/
def bitsOf (N m : Nat) : List Value := (List.range m).map fun i => .bool (N.testBit i)
theorem bitsOf_length (N m : Nat) : (bitsOf N m).length = m := by simp [bitsOf]
theorem bitsOf_push {N m b : Nat} (h : N < 2 ^ m) (hb : b < 2) : bitsOf (N + b * 2 ^ m) (m + 1) = bitsOf N m ++ [.bool ((b : Int) == 1)] := by
  unfold bitsOf
  rw [List.range_succ, List.map_append]
  have e : N + b * 2 ^ m = 2 ^ m * b + N := by rw [Nat.mul_comm, Nat.add_comm]
  congr 1
  · apply List.map_congr_left
    intro i hi
    rw [e, Nat.testBit_two_pow_mul_add b h, if_pos (List.mem_range.1 hi)]
  · simp only [List.map_cons, List.map_nil]
    rw [e, Nat.testBit_two_pow_mul_add b h, if_neg (Nat.lt_irrefl m), Nat.sub_self]
    rcases (show b = 0 ∨ b = 1 by omega) with rfl | rfl <;> rfl
theorem bit_div (N i : Nat) : N.testBit i = ((N / 2 ^ i % 2 : Nat) == 1) := by
  rw [Nat.testBit_eq_decide_div_mod_eq]
  by_cases h : N / 2 ^ i % 2 = 1 <;> simp [h]
/-- A bit more, among the bytes. -/
theorem byteAt_bit {N i : Nat} (h : N < 2 ^ i) (j : Nat) : byteAt (N + 2 ^ i) j = if j = i / 8 then byteAt N j + 2 ^ (i % 8) else byteAt N j := by
  by_cases h1 : j < i / 8
  · rw [if_neg (by omega)]
    have := byteAt_low (N := N) (X := 1) (L := i) (k := j) (by omega)
    rwa [Nat.one_mul] at this
  · by_cases h2 : j = i / 8
    · rw [if_pos h2]
      subst h2
      unfold byteAt
      have e : 2 ^ i = 2 ^ (8 * (i / 8)) * 2 ^ (i % 8) := by rw [← Nat.pow_add]; congr 1; omega
      have h3 : N / 2 ^ (8 * (i / 8)) < 2 ^ (i % 8) := by
        rw [Nat.div_lt_iff_lt_mul (Nat.pow_pos (by omega)), Nat.mul_comm, ← e]; exact h
      have h4 : 2 ^ (i % 8) ≤ 128 := Nat.pow_le_pow_right (n := 2) (j := 7) (by omega) (by omega)
      have e2 : (N + 2 ^ i) / 2 ^ (8 * (i / 8)) = N / 2 ^ (8 * (i / 8)) + 2 ^ (i % 8) := by
        rw [e, Nat.add_mul_div_left _ _ (Nat.pow_pos (by omega))]
      rw [e2, Nat.mod_eq_of_lt (show N / 2 ^ (8 * (i / 8)) + 2 ^ (i % 8) < 256 by omega), Nat.mod_eq_of_lt (show N / 2 ^ (8 * (i / 8)) < 256 by omega)]
    · rw [if_neg h2]
      unfold byteAt
      have h3 : 2 ^ (i + 1) ≤ 2 ^ (8 * j) := Nat.pow_le_pow_right (by omega) (by omega)
      have h4 : 2 ^ (i + 1) = 2 ^ i + 2 ^ i := by rw [Nat.pow_succ]; omega
      rw [Nat.div_eq_of_lt (by omega), Nat.div_eq_of_lt (by omega)]
theorem byte_lt {N i : Nat} (h : N < 2 ^ i) : byteAt N (i / 8) < 2 ^ (i % 8) := by
  unfold byteAt
  have e : 2 ^ i = 2 ^ (8 * (i / 8)) * 2 ^ (i % 8) := by rw [← Nat.pow_add]; congr 1; omega
  have h3 : N / 2 ^ (8 * (i / 8)) < 2 ^ (i % 8) := by
    rw [Nat.div_lt_iff_lt_mul (Nat.pow_pos (by omega)), Nat.mul_comm, ← e]; exact h
  exact Nat.lt_of_le_of_lt (Nat.mod_le _ _) h3
theorem or_byte {x r : Nat} (hx : x < 2 ^ r) (hr : r < 8) : bits BinOp.or .u8 (x : Int) ((2 : Int) ^ r % 256) = ((x + 2 ^ r : Nat) : Int) := by
  have h1 : 2 ^ r ≤ 128 := Nat.pow_le_pow_right (n := 2) (j := 7) (by omega) (by omega)
  have h2 : ((2 ^ r : Nat) : Int) % 256 = ((2 ^ r : Nat) : Int) := by omega
  rw [pow_cast, h2, u8_or_nat _ _ (by omega) (by omega), Nat.or_comm]
  have := Nat.two_pow_add_eq_or_of_lt hx 1
  rw [Nat.mul_one] at this
  rw [← this, Nat.add_comm]
end Go.Proofs.Ytkkjcbakgjabdaa
