/- Rows of bits as numbers, for layer 3 (bitio): plain laws. -/
import Derived.Test.YtkkjcbakgjabdaaKeep
import Derived.Laws.BitsAllLaws
import Derived.Laws.Bits64
namespace Go.Proofs.Ytkkjcbakgjabdaa
open Go.RowKit
/-- Byte k of a number. -/
def byteAt (N k : Nat) : Nat := N / 2 ^ (8 * k) % 256
/-- The first m bytes of a number, as cells. -/
def bytesOf (N m : Nat) : List Value := (List.range m).map fun k => .int .u8 (byteAt N k)
theorem byteAt_lt (N k : Nat) : byteAt N k < 256 := Nat.mod_lt _ (by omega)
theorem wrap64_nat {n : Nat} (h : n < 18446744073709551616) : IntKind.u64.wrap (n : Int) = n := by rw [IntKind.wrap_u64]; omega
theorem pow_cast (n : Nat) : ((2 : Int) ^ n) = ((2 ^ n : Nat) : Int) := by simp
theorem pow_le32 {n : Nat} (h : n ≤ 32) : 2 ^ n ≤ 4294967296 := Nat.pow_le_pow_right (n := 2) (j := 32) (by omega) h
theorem mask64 {n : Nat} (h : n ≤ 32) : IntKind.u64.wrap (IntKind.u64.wrap ((2 : Int) ^ n) - 1) = ((2 ^ n - 1 : Nat) : Int) := by
  have h1 := pow_le32 h
  have h2 : 0 < 2 ^ n := Nat.pow_pos (by omega)
  rw [pow_cast, wrap64_nat (by omega)]
  have : (((2 ^ n : Nat) : Int) - 1) = ((2 ^ n - 1 : Nat) : Int) := by omega
  rw [this, wrap64_nat (by omega)]
theorem and_mask {V n : Nat} (hV : V < 18446744073709551616) (h : n ≤ 32) : bits BinOp.and .u64 (V : Int) (IntKind.u64.wrap (IntKind.u64.wrap ((2 : Int) ^ n) - 1)) = ((V % 2 ^ n : Nat) : Int) := by
  have h1 := pow_le32 h
  rw [mask64 h, u64_and_nat _ _ hV (by omega), Nat.and_two_pow_sub_one_eq_mod]
/-- What is put beside what there is. -/
theorem put_rest {rest V n nn : Nat} (hV : V < 4294967296) (hn : n ≤ 32) (hnn : nn < 8) (hr : rest < 2 ^ nn) :
    ∃ R : Nat, bits BinOp.or .u64 (rest : Int) (IntKind.u64.wrap (bits BinOp.and .u64 (V : Int) (IntKind.u64.wrap (IntKind.u64.wrap ((2 : Int) ^ n) - 1)) * (2 : Int) ^ nn)) = (R : Int) ∧ R = rest + V % 2 ^ n * 2 ^ nn ∧ R < 2 ^ (nn + n) := by
  refine ⟨rest + V % 2 ^ n * 2 ^ nn, ?_, rfl, ?_⟩
  · have h1 := pow_le32 hn
    have h2 : 2 ^ nn ≤ 128 := Nat.pow_le_pow_right (n := 2) (j := 7) (by omega) (by omega)
    have h3 : V % 2 ^ n < 2 ^ n := Nat.mod_lt _ (Nat.pow_pos (by omega))
    have h4 : V % 2 ^ n * 2 ^ nn ≤ 4294967296 * 128 := Nat.mul_le_mul (by omega) h2
    rw [and_mask (by omega) hn, pow_cast, ← Int.natCast_mul, wrap64_nat (by omega), u64_or_nat _ _ (by omega) (by omega)]
    rw [Nat.or_comm, Nat.mul_comm, ← Nat.two_pow_add_eq_or_of_lt hr, Nat.add_comm]
  · have h3 : V % 2 ^ n < 2 ^ n := Nat.mod_lt _ (Nat.pow_pos (by omega))
    have h4 : (V % 2 ^ n + 1) * 2 ^ nn ≤ 2 ^ n * 2 ^ nn := Nat.mul_le_mul_right _ h3
    rw [Nat.pow_add, Nat.mul_comm (2 ^ nn)]
    rw [Nat.add_mul] at h4
    omega
theorem bytesOf_length (N m : Nat) : (bytesOf N m).length = m := by simp [bytesOf]
theorem bytesOf_succ (N m : Nat) : bytesOf N (m + 1) = bytesOf N m ++ [.int .u8 (byteAt N m)] := by
  simp [bytesOf, List.range_succ]
/-- The bytes of a number, whatever stands above them. -/
theorem byteAt_low {N X L k : Nat} (h : 8 * k + 8 ≤ L) : byteAt (N + X * 2 ^ L) k = byteAt N k := by
  unfold byteAt
  have e : 2 ^ L = 2 ^ (8 * k) * (256 * 2 ^ (L - 8 * k - 8)) := by
    have : (256 : Nat) = 2 ^ 8 := rfl
    rw [this, ← Nat.pow_add, ← Nat.pow_add]; congr 1; omega
  rw [e, show X * (2 ^ (8 * k) * (256 * 2 ^ (L - 8 * k - 8))) = 2 ^ (8 * k) * (256 * (X * 2 ^ (L - 8 * k - 8))) by
    rw [Nat.mul_left_comm]; congr 1; rw [Nat.mul_left_comm]]
  rw [Nat.add_mul_div_left _ _ (Nat.pow_pos (by omega)), Nat.add_mul_mod_self_left]
theorem bytesOf_low {N X L m : Nat} (h : 8 * m ≤ L) : bytesOf (N + X * 2 ^ L) m = bytesOf N m := by
  apply List.map_congr_left
  intro k hk
  rw [byteAt_low (by have := List.mem_range.1 hk; omega)]
/-- What is left above the whole bytes. -/
theorem rest_put {N X L : Nat} : (N + X * 2 ^ L) / 2 ^ (8 * (L / 8)) = N / 2 ^ (8 * (L / 8)) + X * 2 ^ (L % 8) := by
  have e : 2 ^ L = 2 ^ (8 * (L / 8)) * 2 ^ (L % 8) := by rw [← Nat.pow_add]; congr 1; omega
  rw [e, show X * (2 ^ (8 * (L / 8)) * 2 ^ (L % 8)) = 2 ^ (8 * (L / 8)) * (X * 2 ^ (L % 8)) by rw [Nat.mul_left_comm]]
  rw [Nat.add_mul_div_left _ _ (Nat.pow_pos (by omega))]
theorem rest_lt {N L : Nat} (h : N < 2 ^ L) : N / 2 ^ (8 * (L / 8)) < 2 ^ (L % 8) := by
  rw [Nat.div_lt_iff_lt_mul (Nat.pow_pos (by omega)), ← Nat.pow_add]
  rwa [show L % 8 + 8 * (L / 8) = L by omega]
theorem put_lt {N V n L : Nat} (h : N < 2 ^ L) : N + V % 2 ^ n * 2 ^ L < 2 ^ (L + n) := by
  have h3 : V % 2 ^ n < 2 ^ n := Nat.mod_lt _ (Nat.pow_pos (by omega))
  have h4 : (V % 2 ^ n + 1) * 2 ^ L ≤ 2 ^ n * 2 ^ L := Nat.mul_le_mul_right _ h3
  rw [Nat.pow_add, Nat.mul_comm (2 ^ L)]
  rw [Nat.add_mul] at h4
  omega
/-- The last byte, of what is left. -/
theorem rest_step (N k : Nat) : N / 2 ^ (8 * k) / 256 = N / 2 ^ (8 * (k + 1)) := by
  rw [Nat.div_div_eq_div_mul, show (256 : Nat) = 2 ^ 8 from rfl, ← Nat.pow_add]; congr 2
end Go.Proofs.Ytkkjcbakgjabdaa
