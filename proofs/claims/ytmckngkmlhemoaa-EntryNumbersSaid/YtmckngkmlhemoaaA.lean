/- Small contracts of layer 14 (entry): numbers in a range, numbers as four bytes. -/
import Derived.Test.YtmckngkmlhemoaaKeep
import Derived.Test.YtmckngkmlhemoaaProg
import Derived.WalkKit
import Derived.BigQuiet
import Derived.Deep.QuietTactic
import Derived.Deep.RegionHeld3
import Derived.Lib.Hide
import Derived.Laws.BitsAllLaws
import Derived.Laws.BitsLemmas
import Derived.Laws.OwnMore
import Derived.Maps.AppendAt
namespace Go.Proofs.Ytmckngkmlhemoaa
open Go.RowKit
/-- Is a number from one to another? -/
def inB (n a b : Int) : Bool := decide (a ≤ n) && decide (n ≤ b)
theorem within19 (n a b : Int) (w : World) : Calls Try.prog 19 #[.int .i64 n, .int .i64 a, .int .i64 b] w fun e w' => e = .returned (.bool (inB n a b)) ∧ w = w' := by
  by_cases h1 : a ≤ n
  · by_cases h2 : n ≤ b
    · go_enter Try.func19, Try.ntmps19
      go_wp2_with fail
      go_ret
      exact ⟨by simp [inB, h1, h2], rfl⟩
    · have t2 : decide (n ≤ b) = false := by simp; omega
      go_enter Try.func19, Try.ntmps19
      go_wp2_with fail
      go_ret
      exact ⟨by simp [inB, h1, t2], rfl⟩
  · have t1 : decide (a ≤ n) = false := by simp; omega
    go_enter Try.func19, Try.ntmps19
    go_wp2_with fail
    go_ret
    exact ⟨by simp [inB, t1], rfl⟩
theorem within27 (n a b : Int) (w : World) : Calls Try.prog 27 #[.int .i64 n, .int .i64 a, .int .i64 b] w fun e w' => e = .returned (.bool (inB n a b)) ∧ w = w' := by
  by_cases h1 : a ≤ n
  · by_cases h2 : n ≤ b
    · go_enter Try.func27, Try.ntmps27
      go_wp2_with fail
      go_ret
      exact ⟨by simp [inB, h1, h2], rfl⟩
    · have t2 : decide (n ≤ b) = false := by simp; omega
      go_enter Try.func27, Try.ntmps27
      go_wp2_with fail
      go_ret
      exact ⟨by simp [inB, h1, t2], rfl⟩
  · have t1 : decide (a ≤ n) = false := by simp; omega
    go_enter Try.func27, Try.ntmps27
    go_wp2_with fail
    go_ret
    exact ⟨by simp [inB, t1], rfl⟩
/-- Which of two numbers is greater. -/
def sg (a b : Int) : Int := if a < b then -1 else if b < a then 1 else 0
theorem sign18 (a b : Int) (w : World) : Calls Try.prog 18 #[.int .i64 a, .int .i64 b] w fun e w' => e = .returned (.int .i64 (sg a b)) ∧ w = w' := by
  by_cases h1 : a < b
  · go_enter Try.func18, Try.ntmps18
    go_wp2_with fail
    go_ret
    exact ⟨ret_int (by simp [sg, h1]), rfl⟩
  · by_cases h2 : b < a
    · go_enter Try.func18, Try.ntmps18
      go_wp2_with fail
      go_ret
      exact ⟨ret_int (by simp [sg, h1, h2]), rfl⟩
    · go_enter Try.func18, Try.ntmps18
      go_wp2_with fail
      go_ret
      exact ⟨ret_int (by unfold sg; rw [if_neg (by omega), if_neg (by omega)]), rfl⟩
theorem i64_or_nat (a b : Nat) (ha : a < 9223372036854775808) (hb : b < 9223372036854775808) : bits .or .i64 (a : Int) (b : Int) = ((a ||| b : Nat) : Int) := by
  have hx : a ||| b < 2 ^ 63 := Nat.or_lt_two_pow (by omega) (by omega)
  show IntKind.i64.wrap ((BitVec.ofInt 64 (a : Int) ||| BitVec.ofInt 64 (b : Int)).toNat : Int) = _
  rw [BitVec.toNat_or, ofInt_u64 a (by omega), ofInt_u64 b (by omega), IntKind.wrap_i64]
  omega
/-- A byte behind a number. -/
theorem or_next {N y : Nat} (hN : N < 16777216) (hy : y < 256) : bits .or .i64 ((N : Int) * 256) (y : Int) = ((N * 256 + y : Nat) : Int) := by
  rw [show (N : Int) * 256 = ((N * 256 : Nat) : Int) by omega, i64_or_nat _ _ (by omega) (by omega)]
  congr 1
  have := Nat.two_pow_add_eq_or_of_lt (show y < 2 ^ 8 by omega) N
  rw [Nat.mul_comm, show (256 : Nat) = 2 ^ 8 from rfl, ← this]
/-- What k bytes say. -/
def num (f : Nat → Nat) : Nat → Nat
  | 0 => 0
  | k + 1 => num f k * 256 + f k
theorem num_lt (f : Nat → Nat) (hf : ∀ i, f i < 256) : ∀ k, num f k < 256 ^ k
  | 0 => by simp [num]
  | k + 1 => by
    have h1 := num_lt f hf k
    have h2 := hf k
    rw [num, Nat.pow_succ]
    have : (num f k + 1) * 256 ≤ 256 ^ k * 256 := Nat.mul_le_mul_right _ h1
    omega
theorem said23 (f : Nat → Nat) (b off n c : Nat) (w : World) (hf : ∀ i, f i < 256) (hn : 4 ≤ n) (hc : n ≤ c) (hc2 : c ≤ 9223372036854775807) (hcell : ∀ i, i < 4 → w.cell? ⟨b, off + i, none⟩ = some (.int .u8 (f i : Nat))) :
    Calls Try.prog 23 #[.slice (some ⟨b, off, none⟩) n c] w fun e w' => e = .returned (.int .i64 (num f 4 : Nat)) ∧ w = w' := by
  have HC := Lib.hid hcell
  have HF := Lib.hid hf
  clear hcell hf
  go_enter Try.func23, Try.ntmps23
  go_wp2_with fail
  go_loop [3, 9] (fun x i => ∃ k : Nat, k ≤ 4 ∧ i = .int .i64 k ∧ x = .int .i64 (num f k : Nat)) (fun _ i => 4 - (intOf i).toNat)
  case atStart => exact ⟨0, Nat.zero_le _, rfl, rfl⟩
  case round =>
    obtain ⟨k, hk, rfl, rfl⟩ := hrel
    by_cases hlt : k < 4
    · have h1 := num_lt f HF.out k
      have h2 : 256 ^ k ≤ 256 ^ 3 := Nat.pow_le_pow_right (by omega) (by omega)
      have hN : num f k < 16777216 := Nat.lt_of_lt_of_le h1 h2
      have hy := HF.out k
      have hck := HC.out k hlt
      have eo := or_next hN hy
      have hs : num f (k + 1) = num f k * 256 + f k := rfl
      have HS := Lib.hid hs
      obtain ⟨X, hX⟩ : ∃ X, X = num f k := ⟨_, rfl⟩
      obtain ⟨y, hyy⟩ : ∃ y, y = f k := ⟨_, rfl⟩
      rw [← hX] at hN eo HS ⊢
      rw [← hyy] at hy hck eo HS
      obtain ⟨Z, hZ⟩ : ∃ Z, Z = X * 256 + y := ⟨_, rfl⟩
      rw [← hZ] at eo HS
      have j1 : (0 : Int) ≤ k := by omega
      have j2 : (k : Int) < 4 := by omega
      clear h1 h2 hX hyy hs hZ
      go_wp2_with fail
      go_round
      case rel => exact ⟨k + 1, by omega, by go_num, by rw [HS.out]⟩
      case measure => simp [intOf]; omega
    · obtain rfl : k = 4 := by omega
      go_wp2_with fail
      go_ret
      exact ⟨rfl, rfl⟩
/-- Byte k of four, the greatest first. -/
def b4 (n : Int) (k : Nat) : Int := n / 2 ^ (24 - 8 * k) % 256
theorem b4_bd (n : Int) (k : Nat) : 0 ≤ b4 n k ∧ b4 n k < 256 := by unfold b4; omega
/-- Cells behind k bytes of a number. -/
def put4 (cs : Array Value) (off : Nat) (n : Int) : Nat → Array Value
  | 0 => cs
  | k + 1 => (put4 cs off n k).setIfInBounds (off + k) (.int .u8 (b4 n k))
theorem put4_size (cs : Array Value) (off : Nat) (n : Int) : ∀ k, (put4 cs off n k).size = cs.size
  | 0 => rfl
  | k + 1 => by rw [put4, Array.size_setIfInBounds, put4_size cs off n k]
set_option maxHeartbeats 1000000 in
theorem four20 (n : Int) (b off m c : Nat) (cs : Array Value) (t : TypeId) (w : World) (hm : 4 ≤ m) (hb : w.heap[b]? = some (.cells cs t (0, 0))) (hs : off + 4 ≤ cs.size) :
    Calls Try.prog 20 #[.slice (some ⟨b, off, none⟩) m c, .int .i64 n] w fun e w' => e = .returned undef ∧ w'.heap[b]? = some (.cells (put4 cs off n 4) t (0, 0)) ∧ Keeps (fun k => k = b) w w' := by
  have HB := Lib.hid hb
  clear hb
  go_enter Try.func20, Try.ntmps20
  go_wp2_with fail
  go_loopw [5] (fun i wr => ∃ k : Nat, k ≤ 4 ∧ i = .int .i64 k ∧ wr.heap[b]? = some (.cells (put4 cs off n k) t (0, 0)) ∧ Keeps (fun k => k = b) w wr) (fun i _ => 4 - (intOf i).toNat)
  case atStart => exact ⟨0, Nat.zero_le _, rfl, HB.out, Keeps.refl _ _⟩
  case round =>
    clear HB
    obtain ⟨k, hk, rfl, hb, hkp⟩ := hrel
    have HB := Lib.hid hb
    have HK := Lib.hid hkp
    clear hkp
    by_cases hlt : k < 4
    · have hsz : off + k < (put4 cs off n k).size := by rw [put4_size]; omega
      obtain ⟨u, hu⟩ : ∃ u, wr.cell? ⟨b, off + k, none⟩ = some u := ⟨_, block_cell hb _ _ (Array.getElem?_eq_getElem hsz)⟩
      have hfz : wr.frozen? ⟨b, off + k, none⟩ = false := frozen_of_row wr b _ _ _ hb
      obtain ⟨s, hs2⟩ : ∃ s : Nat, (24 : Int) - 8 * (k : Int) = s := ⟨24 - 8 * k, by omega⟩
      have HS : Hid (s = 24 - 8 * k) := Lib.hid (by omega)
      have hs3 : s ≤ 24 := by omega
      have j1 : (0 : Int) ≤ k := by omega
      have j2 : (k : Int) < m := by omega
      clear hb hsz
      go_wp2_with fail
      go_roundw
      case rel =>
        have e1 : b4 n k = n / 2 ^ s % 256 := by rw [HS.out]; rfl
        refine ⟨k + 1, by omega, by go_num, ?_, HK.out.trans (Keeps.setCell (fun x => x = b) wr ⟨b, off + k, none⟩ _ rfl) fun _ _ h => h⟩
        rw [put4, e1]
        exact heap_setCell_same wr b (off + k) _ _ _ HB.out
      case measure => simp [intOf]; omega
    · obtain rfl : k = 4 := by omega
      go_wp2_with fail
      refine bodyPost_end (results_none rfl _ _ _) rfl ?_
      exact ⟨rfl, HB.out, HK.out⟩
/-- The document's four bytes, in memory of their own. -/
theorem four22 (n : Int) (w : World) : Calls Try.prog 22 #[.int .i64 n] w fun e w' => e = .returned (.slice (some ⟨w.heap.size, 0, none⟩) 4 4) ∧ w' = w.alloc (.cells #[.int .u8 (b4 n 0), .int .u8 (b4 n 1), .int .u8 (b4 n 2), .int .u8 (b4 n 3)] 5) := by
  go_enter Try.func22, Try.ntmps22
  go_wp2_with fail
  go_ret
  exact ⟨rfl, by simp [b4]⟩
theorem or_far {N y s : Nat} (hy : y < 2 ^ s) (hN : N * 2 ^ s < 9223372036854775808) (hy2 : y < 9223372036854775808) : bits .or .i64 ((N * 2 ^ s : Nat) : Int) (y : Int) = ((N * 2 ^ s + y : Nat) : Int) := by
  rw [i64_or_nat _ _ hN hy2]
  congr 1
  have := Nat.two_pow_add_eq_or_of_lt hy N
  rw [Nat.mul_comm, ← this]
theorem num_four (f : Nat → Nat) : num f 4 = f 0 * 16777216 + f 1 * 65536 + f 2 * 256 + f 3 := by
  simp [num]; omega
theorem number24 (f : Nat → Nat) (b off n c : Nat) (w : World) (hf : ∀ i, f i < 256) (hn : 4 ≤ n) (hcell : ∀ i, i < 4 → w.cell? ⟨b, off + i, none⟩ = some (.int .u8 (f i : Nat))) :
    Calls Try.prog 24 #[.slice (some ⟨b, off, none⟩) n c] w fun e w' => e = .returned (.int .i64 (num f 4 : Nat)) ∧ ∃ m, w' = w.drewN m := by
  have c0 : w.cell? ⟨b, off, none⟩ = some (.int .u8 (f 0 : Nat)) := hcell 0 (by omega)
  have c1 := hcell 1 (by omega)
  have c2 := hcell 2 (by omega)
  have c3 := hcell 3 (by omega)
  have y0 := hf 0
  have y1 := hf 1
  have y2 := hf 2
  have y3 := hf 3
  have HN := Lib.hid (num_four f)
  generalize f 0 = a0 at *
  generalize f 1 = a1 at *
  generalize f 2 = a2 at *
  generalize f 3 = a3 at *
  clear hcell hf
  have l0 : (0 : Int) < n := by omega
  have l1 : (1 : Int) < n := by omega
  have l2 : (2 : Int) < n := by omega
  have l3 : (3 : Int) < n := by omega
  have e1 : bits .or .i64 ((a0 : Int) * 16777216) ((a1 : Int) * 65536) = ((a0 * 256 + a1 : Nat) : Int) * 65536 := by
    rw [show (a0 : Int) * 16777216 = ((a0 * 2 ^ 24 : Nat) : Int) by omega, show (a1 : Int) * 65536 = ((a1 * 65536 : Nat) : Int) by omega, or_far (by omega) (by omega) (by omega)]
    omega
  have e2 : bits .or .i64 (((a0 * 256 + a1 : Nat) : Int) * 65536) ((a2 : Int) * 256) = (((a0 * 256 + a1) * 256 + a2 : Nat) : Int) * 256 := by
    rw [show ((a0 * 256 + a1 : Nat) : Int) * 65536 = (((a0 * 256 + a1) * 2 ^ 16 : Nat) : Int) by omega, show (a2 : Int) * 256 = ((a2 * 256 : Nat) : Int) by omega, or_far (by omega) (by omega) (by omega)]
    omega
  obtain ⟨z1, hz1⟩ : ∃ z : Nat, z = a0 * 256 + a1 := ⟨_, rfl⟩
  rw [← hz1] at e1 e2
  obtain ⟨z2, hz2⟩ : ∃ z : Nat, z = z1 * 256 + a2 := ⟨_, rfl⟩
  rw [← hz2] at e2
  have e3 := or_next (N := z2) (y := a3) (by omega) y3
  obtain ⟨z3, hz3⟩ : ∃ z : Nat, z = z2 * 256 + a3 := ⟨_, rfl⟩
  rw [← hz3] at e3
  have HZ : Hid (num f 4 = z3) := Lib.hid (by rw [HN.out, hz3, hz2, hz1]; omega)
  clear hz1 hz2 hz3
  go_enter Try.func24, Try.ntmps24
  go_wp2_with fail
  go_quiet (fail)
  go_wp2_with fail
  go_ret
  exact ⟨ret_int (by rw [HZ.out]), _, rfl⟩
end Go.Proofs.Ytmckngkmlhemoaa
