/- Contracts of the reader of layer 3 (bitio): NewReader, Left, At, Align, Get. -/
import Derived.Test.YtkkjcbakgjabdaaC
namespace Go.Proofs.Ytkkjcbakgjabdaa
open Go.RowKit
/-- A reader at block p over the n bytes of the number B, at bit o; its bytes are the slice v. -/
structure Rd (w : World) (base p : Nat) (v : Value) (B n o : Nat) : Prop where
  blk : w.heap[p]? = some (.cells #[.bool true, v, .int .i64 (o : Nat)] 59)
  row : w.ownsRow base 5 1 v n (bytesOf B n)
  apart : v.ownBlock ≠ some p
  low : base ≤ p
  at_le : o ≤ 8 * n
  n_le : n ≤ 1073741824
theorem Rd.keeps {S : Nat → Prop} {w w' : World} {base p : Nat} {v : Value} {B n o : Nat} (h : Rd w base p v B n o) (k : Keeps S w w') (hS : ∀ i, foot p v i → ¬ S i) : Rd w' base p v B n o :=
  ⟨k.heap h.blk (hS p (.inl rfl)), k.row h.row fun i hi => hS i (.inr hi), h.apart, h.low, h.at_le, h.n_le⟩
theorem Rd.foot_lt {w : World} {base p : Nat} {v : Value} {B n o : Nat} (h : Rd w base p v B n o) {k : Nat} (hk : foot p v k) : base ≤ k ∧ k < w.heap.size := by
  rcases hk with rfl | hk
  · exact ⟨h.low, heap_lt h.blk⟩
  · exact row_lt h.row hk
theorem rd_at {w : World} {p : Nat} {t : TypeId} {a b c : Value} (hb : w.heap[p]? = some (.cells #[a, b, c] t)) :
    w.cell? ⟨p, 0, none⟩ = some a ∧ w.cell? ⟨p, 1, none⟩ = some b ∧ w.cell? ⟨p, 2, none⟩ = some c ∧ ∀ k, w.frozen? ⟨p, k, none⟩ = false :=
  ⟨block_cell hb 0 _ rfl, block_cell hb 1 _ rfl, block_cell hb 2 _ rfl, fun k => frozen_of_row w p k _ _ hb⟩
theorem newr11 (w : World) (B : Nat) (A : Option Addr) (n c : Nat) (hn : n ≤ 1073741824) (ha : Arr w w.heap.size A n fun k => .int .u8 (byteAt B k)) (hA : A = none → n = 0 ∧ c = 0) :
    Calls Try.prog 11 #[.slice A n c] w fun e w' => ∃ p v, e = .returned (.pointer (some ⟨p, 0, none⟩)) ∧ w.heap.size ≤ p ∧ Below w.heap.size w w' ∧ Rd w' w.heap.size p v B n 0 := by
  have HA := Lib.hid (And.intro ha hA)
  clear ha hA
  go_enter Try.func11, Try.ntmps11
  go_wp2_with fail
  refine (clone33 w _ A n c (by omega) HA.out.1 HA.out.2 (by simp [Value.oneCell'])).mono ?_
  rintro e w1 ⟨v1, rfl, hb1, hrow1⟩
  obtain ⟨A1, cap1, rfl, _, _⟩ := row_arr hrow1
  have HB := Lib.hid hb1
  have HO := Lib.hid hrow1
  clear hb1 hrow1
  go_wp2_with fail
  go_ret
  have hb1 := HB.out
  have hrow1 := HO.out
  refine ⟨w1.heap.size, _, rfl, hb1.size, hb1.alloc hb1.size _, heap_new w1 _, hrow1.alloc _, ?_, hb1.size, by omega, hn⟩
  intro e
  have := (row_lt hrow1 e).2
  omega
theorem rd_form {w : World} {base p : Nat} {v : Value} {B n o : Nat} (h : Rd w base p v B n o) : ∃ A cap, v = .slice A n cap ∧ Arr w w.heap.size A n (fun k => .int .u8 (byteAt B k)) ∧ (A = none → n = 0 ∧ cap = 0) := by
  obtain ⟨A, cap, e, ha, _, _, hn⟩ := row_arr h.row
  exact ⟨A, cap, e, ha, hn⟩
theorem left12 (w : World) (base p : Nat) (v : Value) (B n o : Nat) (hr : Rd w base p v B n o) :
    Calls Try.prog 12 #[.pointer (some ⟨p, 0, none⟩)] w fun e w' => e = .returned (.int .i64 (8 * n - o : Nat)) ∧ ∃ m, w' = w.drewN m := by
  obtain ⟨A, cap, rfl, _, _⟩ := rd_form hr
  obtain ⟨c0, c1, c2, f0⟩ := rd_at hr.blk
  have h1 := hr.at_le
  have h2 := hr.n_le
  clear hr
  go_enter Try.func12, Try.ntmps12
  go_wp2_with fail
  go_region
  go_wp2_with fail
  go_ret
  exact ⟨ret_int (by show 8 * (n : Int) - o = _; omega), 1, rfl⟩
theorem at31 (w : World) (base p : Nat) (v : Value) (B n o : Nat) (hr : Rd w base p v B n o) :
    Calls Try.prog 31 #[.pointer (some ⟨p, 0, none⟩)] w fun e w' => e = .returned (.int .i64 o) ∧ w = w' := by
  obtain ⟨c0, c1, c2, f0⟩ := rd_at hr.blk
  clear hr
  go_enter Try.func31, Try.ntmps31
  go_wp2_with fail
  go_ret
  exact ⟨rfl, rfl⟩
theorem i64_small {n : Nat} (h : n < 9223372036854775808) : IntKind.i64.wrap (n : Int) = n := by rw [IntKind.wrap_i64]; omega
theorem i64_and7 {x : Nat} (h : x < 4611686018427387904) : bits .and .i64 (x : Int) 7 = ((x % 8 : Nat) : Int) := by
  show IntKind.i64.wrap ((BitVec.ofInt 64 (x : Int) &&& BitVec.ofInt 64 ((7 : Nat) : Int)).toNat : Int) = _
  rw [BitVec.toNat_and, ofInt_u64 x (by omega), ofInt_u64 7 (by omega), show (7 : Nat) = 2 ^ 3 - 1 from rfl, Nat.and_two_pow_sub_one_eq_mod]
  exact i64_small (by omega)
theorem i64_andNot7 {x : Nat} (h : x < 4611686018427387904) : bits .andNot .i64 (x : Int) 7 = ((8 * (x / 8) : Nat) : Int) := by
  show IntKind.i64.wrap ((BitVec.ofInt 64 (x : Int) &&& ~~~BitVec.ofInt 64 ((7 : Nat) : Int)).toNat : Int) = _
  rw [BitVec.toNat_and, BitVec.toNat_not, ofInt_u64 x (by omega), ofInt_u64 7 (by omega), show 2 ^ 64 - 1 - 7 = 18446744073709551608 by decide, nat_hi64_3, Nat.mod_eq_of_lt (by omega), Nat.mul_comm]
  exact i64_small (by omega)
theorem alignr28 (w : World) (base p : Nat) (v : Value) (B n o : Nat) (hr : Rd w base p v B n o) :
    Calls Try.prog 28 #[.pointer (some ⟨p, 0, none⟩)] w fun e w' => e = .returned undef ∧ Rd w' base p v B n (8 * ((o + 7) / 8)) ∧ Keeps (fun k => k = p) w w' := by
  have HR := Lib.hid hr
  obtain ⟨c0, c1, c2, f0⟩ := rd_at hr.blk
  have h1 := hr.at_le
  have h2 := hr.n_le
  clear hr
  have e7 := i64_andNot7 (x := o + 7) (by omega)
  rw [show ((o + 7 : Nat) : Int) = (o : Int) + 7 by omega] at e7
  go_enter Try.func28, Try.ntmps28
  go_wp2_with fail
  refine bodyPost_end (results_none rfl _ _ _) rfl ?_
  generalize hWF : World.setCell _ _ _ = WF
  have hF : WF.heap[p]? = some (.cells #[.bool true, v, .int .i64 ((8 * ((o + 7) / 8) : Nat) : Int)] 59) := by
    rw [← hWF]; exact heap_setCell_same w p 2 _ 59 _ HR.out.blk
  have hK : Keeps (fun k => k = p) w WF := by rw [← hWF]; exact Keeps.setCell (fun k => k = p) w ⟨p, 2, none⟩ _ rfl
  have hr := HR.out
  exact ⟨rfl, ⟨hF, hK.row hr.row fun k hk e => hr.apart (by rw [hk, e]), hr.apart, hr.low, by omega, hr.n_le⟩, hK⟩
/-- One byte more, of those that are joined. -/
theorem get_step {C j y : Nat} (hj : j ≤ 4) (hy : y = C / 2 ^ (8 * j) % 256) :
    bits BinOp.or .u64 ((C % 2 ^ (8 * j) : Nat) : Int) (IntKind.u64.wrap (IntKind.u64.wrap (y : Int) * (2 : Int) ^ (8 * j))) = ((C % 2 ^ (8 * (j + 1)) : Nat) : Int) := by
  have h0 : 0 < 2 ^ (8 * j) := Nat.pow_pos (by omega)
  have h1 : 2 ^ (8 * j) ≤ 4294967296 := Nat.pow_le_pow_right (n := 2) (j := 32) (by omega) (by omega)
  have h2 : C % 2 ^ (8 * j) < 2 ^ (8 * j) := Nat.mod_lt _ h0
  have h3 : y < 256 := by omega
  have h4 : y * 2 ^ (8 * j) ≤ 255 * 4294967296 := Nat.mul_le_mul (by omega) h1
  rw [wrap64_nat (by omega), pow_cast, ← Int.natCast_mul, wrap64_nat (by omega), u64_or_nat _ _ (by omega) (by omega)]
  rw [Nat.or_comm, Nat.mul_comm, ← Nat.two_pow_add_eq_or_of_lt h2, Nat.add_comm, hy, show 8 * (j + 1) = 8 * j + 8 by omega, Nat.pow_add, Nat.mod_mul]
/-- The bits that are asked, of the bytes that have them. -/
theorem get_last {B o k a d : Nat} (ha : a = o / 8) (hd : a + d = (o + k + 7) / 8) : B / 2 ^ (8 * a) % 2 ^ (8 * d) / 2 ^ (o % 8) % 2 ^ k = B / 2 ^ o % 2 ^ k := by
  have e1 : 2 ^ (8 * d) = 2 ^ (o % 8) * (2 ^ k * 2 ^ (8 * d - o % 8 - k)) := by rw [← Nat.pow_add, ← Nat.pow_add]; congr 1; omega
  rw [e1, Nat.mod_mul_right_div_self, Nat.mod_mul_right_mod, Nat.div_div_eq_div_mul, ← Nat.pow_add, show 8 * a + o % 8 = o by omega]
theorem get14 (w : World) (base p : Nat) (v : Value) (B n o k : Nat) (hr : Rd w base p v B n o) (hk : k ≤ 32) (hle : o + k ≤ 8 * n) :
    Calls Try.prog 14 #[.pointer (some ⟨p, 0, none⟩), .int .i64 k] w fun e w' => e = .returned (.tuple #[.int .u32 (B / 2 ^ o % 2 ^ k : Nat), .bool true]) ∧ Rd w' base p v B n (o + k) ∧ Keeps (fun k => k = p) w w' := by
  have HR := Lib.hid hr
  obtain ⟨A, cap, rfl, ha, hnn⟩ := rd_form hr
  obtain ⟨c0, c1, c2, f0⟩ := rd_at hr.blk
  have h1 := hr.at_le
  have h2 := hr.n_le
  clear hr
  have HA := Lib.hid ha
  clear ha hnn
  have t1 : decide ((k : Int) < 0) = false := by simp
  have t2 : decide ((32 : Int) < k) = false := by simp; omega
  have t3 : decide (8 * n - o < k) = false := by simp; omega
  obtain ⟨a, ha⟩ : ∃ a : Nat, (o : Int) / 8 = a := ⟨o / 8, by omega⟩
  obtain ⟨z, hz⟩ : ∃ z : Nat, ((o : Int) + k + 7) / 8 = z := ⟨(o + k + 7) / 8, by omega⟩
  obtain ⟨d, hd⟩ : ∃ d : Nat, (z : Int) - a = d := ⟨z - a, by omega⟩
  go_enter Try.func14, Try.ntmps14
  go_wp2_with (go_at_call 12; refine (left12 w base p _ B n o HR.out).mono ?_; rintro e w1 ⟨rfl, m1, rfl⟩)
  go_region
  go_wp2_with fail
  go_loopw [8, 49] (fun x i wr => ∃ j : Nat, j ≤ d ∧ i = .int .i64 j ∧ x = .int .u64 (B / 2 ^ (8 * a) % 2 ^ (8 * j) : Nat) ∧ wr = w.drewN (m1 + 1)) (fun _ i _ => d - (intOf i).toNat)
  case atStart => exact ⟨0, Nat.zero_le _, rfl, by simp [Nat.mod_one], rfl⟩
  case round =>
    obtain ⟨j, hj, rfl, rfl, rfl⟩ := hrel
    obtain ⟨X, hX⟩ : ∃ X, X = B / 2 ^ (8 * a) % 2 ^ (8 * j) := ⟨_, rfl⟩
    rw [← hX]
    have HX := Lib.hid hX
    clear hX
    by_cases hlt : j < d
    · obtain ⟨b, off, rfl, hb, hc⟩ := HA.out (by omega)
      have hcj : w.cell? ⟨b, off + (a + j), none⟩ = some (.int .u8 (byteAt B (a + j) : Nat)) := hc (a + j) (by omega)
      obtain ⟨y, hy⟩ : ∃ y, y = byteAt B (a + j) := ⟨_, rfl⟩
      rw [← hy] at hcj
      have b1 : (0 : Int) ≤ (a : Int) + j := by omega
      have b2 : (a : Int) + j < n := by omega
      have Hy := Lib.hid hy
      clear hc hy
      go_wp2_with fail
      have HS := Lib.hid (get_step (C := B / 2 ^ (8 * a)) (j := j) (y := byteAt B (a + j)) (by omega) (by unfold byteAt; rw [Nat.div_div_eq_div_mul, ← Nat.pow_add, Nat.mul_add]))
      go_roundw
      case rel =>
        refine ⟨j + 1, by omega, by go_num, ?_, by trivial⟩
        have h := HS.out
        rw [← HX.out, ← Hy.out] at h
        rw [h]
      case measure => simp [intOf]; omega
    · obtain rfl : j = d := by omega
      have er := i64_and7 (x := o) (by omega)
      obtain ⟨r, hr⟩ : ∃ r, r = o % 8 := ⟨_, rfl⟩
      rw [← hr] at er
      have HRR := Lib.hid hr
      clear hr
      go_wp2_with fail
      go_ret2
      generalize hWF : World.setCell _ _ _ = WF
      have hF : WF.heap[p]? = some (.cells #[.bool true, .slice A n cap, .int .i64 ((o + k : Nat) : Int)] 59) := by
        rw [← hWF]; exact heap_setCell_same _ p 2 _ 59 _ HR.out.blk
      have hK : Keeps (fun k => k = p) w WF := by rw [← hWF]; exact Keeps.trans (Keeps.drewN _ w _) (Keeps.setCell (fun k => k = p) _ ⟨p, 2, none⟩ _ rfl) fun _ _ h => h
      have hr := HR.out
      refine ⟨?_, ⟨hF, hK.row hr.row fun k hk e => hr.apart (by rw [hk, e]), hr.apart, hr.low, hle, hr.n_le⟩, hK⟩
      have hx1 : X < 18446744073709551616 := by
        have h1 : X < 2 ^ (8 * j) := by rw [HX.out]; exact Nat.mod_lt _ (Nat.pow_pos (by omega))
        have h2 : 2 ^ (8 * j) ≤ 1099511627776 := Nat.pow_le_pow_right (n := 2) (j := 40) (by omega) (by omega)
        omega
      have hx2 : X / 2 ^ r ≤ X := Nat.div_le_self _ _
      have e1 : (X : Int) / 2 ^ min r 64 = ((X / 2 ^ r : Nat) : Int) := by
        rw [show min r 64 = r by have := HRR.out; omega, Int.natCast_ediv, pow_cast]
      have e2 : X / 2 ^ r % 2 ^ k = B / 2 ^ o % 2 ^ k := by
        rw [HX.out, HRR.out]; exact get_last (by omega) (by omega)
      have e3 : B / 2 ^ o % 2 ^ k < 4294967296 := Nat.lt_of_lt_of_le (Nat.mod_lt _ (Nat.pow_pos (by omega))) (pow_le32 hk)
      show Ending.returned (.tuple #[.int .u32 (bits BinOp.and .u64 ((X : Int) / 2 ^ min r 64) (IntKind.u64.wrap (IntKind.u64.wrap ((2 : Int) ^ k) - 1)) % 4294967296), .bool true]) = _
      rw [e1, and_mask (by omega) hk, e2, Int.emod_eq_of_lt (by omega) (by omega)]
end Go.Proofs.Ytkkjcbakgjabdaa
