/- Contracts for layer 3 (bitio): what is refused; the steps in a world of the call's own; the law's example. -/
import Derived.Test.YtkkjcbakgjabdaaD
namespace Go.Proofs.Ytkkjcbakgjabdaa
open Go.RowKit
theorem putno15 (w : World) (base p : Nat) (v : Value) (N L : Nat) (V : Value) (n : Int) (hw : Wr w base p v N L) (hn : n < 0 ∨ 32 < n) :
    Calls Try.prog 15 #[.pointer (some ⟨p, 0, none⟩), V, .int .i64 n] w fun e w' => e = .returned (.bool false) ∧ w = w' := by
  obtain ⟨c0, c1, c2, c3, f0⟩ := wr_at hw.blk
  clear hw c1 c2 c3 f0
  by_cases h : n < 0
  · have t1 : decide (n < 0) = true := by simp; omega
    clear hn
    go_enter Try.func15, Try.ntmps15
    go_wp2_with fail
    go_ret
    exact ⟨rfl, rfl⟩
  · have t1 : decide (n < 0) = false := by simp; omega
    have t2 : decide (32 < n) = true := by simp; omega
    clear hn
    go_enter Try.func15, Try.ntmps15
    go_wp2_with fail
    go_ret
    exact ⟨rfl, rfl⟩
theorem getno14 (w : World) (base p : Nat) (v : Value) (B n o : Nat) (k : Int) (hr : Rd w base p v B n o) (hk : k < 0 ∨ 32 < k ∨ 8 * (n : Int) - o < k) :
    Calls Try.prog 14 #[.pointer (some ⟨p, 0, none⟩), .int .i64 k] w fun e w' => e = .returned (.tuple #[.int .u32 0, .bool false]) ∧ ∃ m, w' = w.drewN m := by
  have HR := Lib.hid hr
  obtain ⟨c0, c1, c2, f0⟩ := rd_at hr.blk
  have h1 := hr.at_le
  clear hr c1 c2 f0
  by_cases h : k < 0
  · have t1 : decide (k < 0) = true := by simp; omega
    clear hk
    go_enter Try.func14, Try.ntmps14
    go_wp2_with fail
    go_ret2
    exact ⟨rfl, 0, rfl⟩
  · by_cases h' : 32 < k
    · have t1 : decide (k < 0) = false := by simp; omega
      have t2 : decide (32 < k) = true := by simp; omega
      clear hk
      go_enter Try.func14, Try.ntmps14
      go_wp2_with fail
      go_ret2
      exact ⟨rfl, 0, rfl⟩
    · have t1 : decide (k < 0) = false := by simp; omega
      have t2 : decide (32 < k) = false := by simp; omega
      have t3 : decide (((8 * n - o : Nat) : Int) < k) = true := by simp; omega
      clear hk
      go_enter Try.func14, Try.ntmps14
      go_wp2_with (go_at_call 12; refine (left12 w base p _ B n o HR.out).mono ?_; rintro e w1 ⟨rfl, m1, rfl⟩)
      go_ret2
      exact ⟨rfl, m1, rfl⟩
theorem Rd.more {w : World} {base base' p : Nat} {v : Value} {B n o : Nat} (h : Rd w base p v B n o) (hb : base' ≤ base) : Rd w base' p v B n o :=
  ⟨h.blk, row_more h.row hb, h.apart, Nat.le_trans hb h.low, h.at_le, h.n_le⟩
/-- Put, in a call's own memory. -/
theorem put_own (W w : World) (p : Nat) (v : Value) (N L V n : Nat) (hB : Below W.heap.size W w) (hw : Wr w W.heap.size p v N L) (hn : n ≤ 32) (hV : V < 4294967296) (hL : L ≤ 1099511627776) :
    Calls Try.prog 15 #[.pointer (some ⟨p, 0, none⟩), .int .u32 V, .int .i64 n] w fun e w' => e = .returned (.bool true) ∧ Below W.heap.size W w' ∧ ∃ v', Wr w' W.heap.size p v' (N + V % 2 ^ n * 2 ^ L) (L + n) :=
  (put15 w W.heap.size p v N L V n hw hn hV hL hB.size).mono fun _ _ ⟨he, v', hw', hk, _⟩ => ⟨he, hB.trans (hk.below (fun _ h => (hw.foot_lt h).1) hB.size), v', hw'⟩
theorem get_own (W w : World) (p : Nat) (v : Value) (B n o k : Nat) (hB : Below W.heap.size W w) (hr : Rd w W.heap.size p v B n o) (hk : k ≤ 32) (hle : o + k ≤ 8 * n) :
    Calls Try.prog 14 #[.pointer (some ⟨p, 0, none⟩), .int .i64 k] w fun e w' => e = .returned (.tuple #[.int .u32 (B / 2 ^ o % 2 ^ k : Nat), .bool true]) ∧ Below W.heap.size W w' ∧ Rd w' W.heap.size p v B n (o + k) :=
  (get14 w W.heap.size p v B n o k hr hk hle).mono fun _ _ ⟨he, hr', hk'⟩ => ⟨he, hB.trans (hk'.below (fun k h => by rw [h]; exact hr.low) hB.size), hr'⟩
set_option maxHeartbeats 1000000 in
theorem awake9 (W : World) : Calls Try.prog 9 #[] W fun e w' => e = .returned (.bool true) ∧ Below W.heap.size W w' := by
  go_enter Try.func9, Try.ntmps9
  go_wp2_with fail
  refine (new10 W W.heap.size (Nat.le_refl _)).mono ?_
  rintro e w1 ⟨rfl, hb1, hw1⟩
  have B1 := Lib.hid hb1
  have W1 := Lib.hid hw1
  clear hb1 hw1
  go_wp2_with fail
  refine (put_own W w1 _ _ 0 0 5 3 B1.out W1.out (by omega) (by omega) (by omega)).mono ?_
  rintro e w2 ⟨rfl, hb2, v2, hw2⟩
  have B2 := Lib.hid hb2
  have W2 : Hid (Wr w2 W.heap.size W.heap.size v2 5 3) := Lib.hid hw2
  clear hb2 hw2 B1 W1
  go_wp2_with fail
  refine (put_own W w2 _ _ 5 3 1 1 B2.out W2.out (by omega) (by omega) (by omega)).mono ?_
  rintro e w3 ⟨rfl, hb3, v3, hw3⟩
  have B3 := Lib.hid hb3
  have W3 : Hid (Wr w3 W.heap.size W.heap.size v3 13 4) := Lib.hid hw3
  clear hb3 hw3 B2 W2
  go_wp2_with fail
  refine (put_own W w3 _ _ 13 4 511 9 B3.out W3.out (by omega) (by omega) (by omega)).mono ?_
  rintro e w4 ⟨rfl, hb4, v4, hw4⟩
  have B4 := Lib.hid hb4
  have W4 : Hid (Wr w4 W.heap.size W.heap.size v4 8189 13) := Lib.hid hw4
  clear hb4 hw4 B3 W3
  go_wp2_with fail
  refine (putno15 w4 _ _ _ _ _ _ 33 W4.out (by omega)).mono ?_
  rintro e w5 ⟨rfl, rfl⟩
  go_wp2_with fail
  refine (putno15 w4 _ _ _ _ _ _ (-1) W4.out (by omega)).mono ?_
  rintro e w5 ⟨rfl, rfl⟩
  go_wp2_with fail
  refine (len16 w4 _ _ _ _ _ W4.out (by omega)).mono ?_
  rintro e w5 ⟨rfl, m5, rfl⟩
  go_wp2_with fail
  refine (bytes18 (w4.drewN m5) W.heap.size W.heap.size v4 8189 13 (W4.out.keeps (Keeps.drewN (fun _ => False) w4 m5) fun _ _ h => h) (by omega)).mono ?_
  rintro e w6 ⟨v6, rfl, hb6, hrow6⟩
  obtain ⟨A, cap, rfl, ha, _, _, hn⟩ := row_arr hrow6
  have B6 := Lib.hid ((B4.out.trans (below_drewN (Below.refl _ _) m5)).trans (hb6.mono B4.out.size))
  have A6 := Lib.hid ha
  have N6 := Lib.hid hn
  obtain ⟨b, off, rfl, hb, hc⟩ := ha (by omega)
  have c0 : w6.cell? ⟨b, off, none⟩ = some (.int .u8 253) := hc 0 (by omega)
  have c1 : w6.cell? ⟨b, off + 1, none⟩ = some (.int .u8 31) := hc 1 (by omega)
  clear hb6 hrow6 ha hn hc W4 B4
  go_wp2_with fail
  refine (newr11 w6 8189 _ 2 cap (by omega) A6.out N6.out).mono ?_
  rintro e w7 ⟨p, v7, rfl, _, hb7, hr7⟩
  have B7 := Lib.hid (B6.out.trans (hb7.mono B6.out.size))
  have R7 := Lib.hid (hr7.more B6.out.size)
  clear hb7 hr7 c0 c1 hb A6 N6 B6
  go_wp2_with fail
  refine (get_own W w7 p v7 8189 2 0 3 B7.out R7.out (by omega) (by omega)).mono ?_
  rintro e w8 ⟨rfl, hb8, hr8⟩
  have B8 := Lib.hid hb8
  have R8 := Lib.hid hr8
  clear hb8 hr8 B7 R7
  go_wp2_with fail
  refine (get_own W w8 p v7 8189 2 3 1 B8.out R8.out (by omega) (by omega)).mono ?_
  rintro e w9 ⟨rfl, hb9, hr9⟩
  have B9 := Lib.hid hb9
  have R9 := Lib.hid hr9
  clear hb9 hr9 B8 R8
  go_wp2_with fail
  refine (get_own W w9 p v7 8189 2 4 9 B9.out R9.out (by omega) (by omega)).mono ?_
  rintro e w10 ⟨rfl, hb10, hr10⟩
  have B10 := Lib.hid hb10
  have R10 := Lib.hid hr10
  clear hb10 hr10 B9 R9
  go_wp2_with fail
  refine (getno14 w10 _ p v7 8189 2 13 4 R10.out (by omega)).mono ?_
  rintro e w11 ⟨rfl, m11, rfl⟩
  go_wp2_with fail
  refine (get_own W (w10.drewN m11) p v7 8189 2 13 3 (below_drewN B10.out _) (R10.out.keeps (Keeps.drewN (fun _ => False) w10 m11) fun _ _ h => h) (by omega) (by omega)).mono ?_
  rintro e w12 ⟨rfl, hb12, hr12⟩
  have B12 := Lib.hid hb12
  have R12 := Lib.hid hr12
  clear hb12 hr12 B10 R10
  go_wp2_with fail
  refine (left12 w12 _ p v7 8189 2 16 R12.out).mono ?_
  rintro e w13 ⟨rfl, m13, rfl⟩
  go_wp2_with fail
  refine (at31 (w12.drewN m13) _ p v7 8189 2 16 (R12.out.keeps (Keeps.drewN (fun _ => False) w12 m13) fun _ _ h => h)).mono ?_
  rintro e w14 ⟨rfl, rfl⟩
  go_wp2_with fail
  go_ret
  exact ⟨rfl, below_drewN B12.out _⟩
end Go.Proofs.Ytkkjcbakgjabdaa
