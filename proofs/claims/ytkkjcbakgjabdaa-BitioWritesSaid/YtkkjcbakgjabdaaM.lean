/- Contracts of the document's reader of layer 3 (bitio). -/
import Derived.Test.YtkkjcbakgjabdaaL
namespace Go.Proofs.Ytkkjcbakgjabdaa
open Go.RowKit
/-- The document's reader at block p, of the slice that came in, at bit o. -/
structure Rf (w : World) (base p : Nat) (A : Option Addr) (c B n o : Nat) : Prop where
  blk : w.heap[p]? = some (.cells #[.slice A n c, .int .i64 (o : Nat)] 52)
  low : base ≤ p
  arr : Arr w base A n fun k => .int .u8 (byteAt B k : Nat)
  at_le : o ≤ 8 * n
  n_le : n ≤ 1073741824
theorem two_at {w : World} {p : Nat} {t : TypeId} {a b : Value} (hb : w.heap[p]? = some (.cells #[a, b] t)) : w.cell? ⟨p, 0, none⟩ = some a ∧ w.cell? ⟨p, 1, none⟩ = some b ∧ ∀ k, w.frozen? ⟨p, k, none⟩ = false :=
  ⟨block_cell hb 0 _ rfl, block_cell hb 1 _ rfl, fun k => frozen_of_row w p k _ _ hb⟩
theorem Rf.keeps {S : Nat → Prop} {w w' : World} {base p : Nat} {A : Option Addr} {c B n o : Nat} (h : Rf w base p A c B n o) (k : Keeps S w w') (hp : ¬ S p) (hS : ∀ i, i < base → ¬ S i) : Rf w' base p A c B n o :=
  ⟨k.heap h.blk hp, h.low, k.arr h.arr hS, h.at_le, h.n_le⟩
theorem Rf.drewN {w : World} {base p : Nat} {A : Option Addr} {c B n o : Nat} (h : Rf w base p A c B n o) (m : Nat) : Rf (w.drewN m) base p A c B n o := h.keeps (Keeps.drewN (fun _ => False) w m) (fun h => h) fun _ _ h => h
theorem rleft32 (w : World) (base p : Nat) (A : Option Addr) (c B n o : Nat) (hr : Rf w base p A c B n o) : Calls Try.prog 32 #[.pointer (some ⟨p, 0, none⟩)] w fun e w' => e = .returned (.int .i64 (8 * n - o : Nat)) ∧ ∃ m, w' = w.drewN m := by
  obtain ⟨c0, c1, f0⟩ := two_at hr.blk
  have h1 := hr.at_le
  have h2 := hr.n_le
  clear hr
  go_enter Try.func32, Try.ntmps32
  go_wp2_with fail
  go_region
  go_wp2_with fail
  go_ret
  exact ⟨ret_int (by show 8 * (n : Int) - o = _; omega), 1, rfl⟩
theorem ralignr29 (w : World) (base p : Nat) (A : Option Addr) (c B n o : Nat) (hr : Rf w base p A c B n o) :
    Calls Try.prog 29 #[.pointer (some ⟨p, 0, none⟩)] w fun e w' => e = .returned undef ∧ Rf w' base p A c B n (8 * ((o + 7) / 8)) ∧ Keeps (fun k => k = p) w w' := by
  have HR := Lib.hid hr
  obtain ⟨c0, c1, f0⟩ := two_at hr.blk
  have h1 := hr.at_le
  have h2 := hr.n_le
  clear hr c0
  go_enter Try.func29, Try.ntmps29
  go_wp2_with fail
  refine bodyPost_end (results_none rfl _ _ _) rfl ?_
  generalize hWF : World.setCell _ _ _ = WF
  have hF : WF.heap[p]? = some (.cells #[.slice A n c, .int .i64 ((8 * ((o + 7) / 8) : Nat) : Int)] 52) := by
    rw [← hWF, show ((8 * ((o + 7) / 8) : Nat) : Int) = ((o : Int) + 7) / 8 * 8 by omega]; exact heap_setCell_same w p 1 _ 52 _ HR.out.blk
  have hK : Keeps (fun k => k = p) w WF := by rw [← hWF]; exact Keeps.setCell (fun k => k = p) w ⟨p, 1, none⟩ _ rfl
  have hr := HR.out
  exact ⟨rfl, ⟨hF, hr.low, hK.arr hr.arr (fun k hk e => by have := hr.low; omega), by omega, hr.n_le⟩, hK⟩
theorem rgetno30 (w : World) (base p : Nat) (A : Option Addr) (c B n o : Nat) (k : Int) (hr : Rf w base p A c B n o) (hk : k < 0 ∨ 32 < k ∨ 8 * (n : Int) - o < k) :
    Calls Try.prog 30 #[.pointer (some ⟨p, 0, none⟩), .int .i64 k] w fun e w' => e = .returned (.tuple #[.int .u32 0, .bool false]) ∧ ∃ m, w' = w.drewN m := by
  have HR := Lib.hid hr
  have h1 := hr.at_le
  clear hr
  by_cases h : k < 0
  · have t1 : decide (k < 0) = true := by simp; omega
    clear hk
    go_enter Try.func30, Try.ntmps30
    go_wp2_with fail
    go_ret2
    exact ⟨rfl, 0, rfl⟩
  · by_cases h' : 32 < k
    · have t1 : decide (k < 0) = false := by simp; omega
      have t2 : decide (32 < k) = true := by simp; omega
      clear hk
      go_enter Try.func30, Try.ntmps30
      go_wp2_with fail
      go_ret2
      exact ⟨rfl, 0, rfl⟩
    · have t1 : decide (k < 0) = false := by simp; omega
      have t2 : decide (32 < k) = false := by simp; omega
      have t3 : decide (((8 * n - o : Nat) : Int) < k) = true := by simp; omega
      clear hk
      go_enter Try.func30, Try.ntmps30
      go_wp2_with (go_at_call 32; refine (rleft32 w base p _ c B n o HR.out).mono ?_; rintro e w1 ⟨rfl, m1, rfl⟩)
      go_ret2
      exact ⟨rfl, m1, rfl⟩
set_option maxHeartbeats 1000000 in
theorem rget30 (w : World) (base p : Nat) (A : Option Addr) (c B n o k : Nat) (hr : Rf w base p A c B n o) (hk : k ≤ 32) (hle : o + k ≤ 8 * n) :
    Calls Try.prog 30 #[.pointer (some ⟨p, 0, none⟩), .int .i64 k] w fun e w' => e = .returned (.tuple #[.int .u32 (B / 2 ^ o % 2 ^ k : Nat), .bool true]) ∧ Rf w' base p A c B n (o + k) ∧ Keeps (fun k => k = p) w w' := by
  have HR := Lib.hid hr
  have h1 := hr.at_le
  have h2 := hr.n_le
  clear hr
  have t1 : decide ((k : Int) < 0) = false := by simp
  have t2 : decide ((32 : Int) < k) = false := by simp; omega
  have t3 : decide (8 * n - o < k) = false := by simp; omega
  go_enter Try.func30, Try.ntmps30
  go_wp2_with (go_at_call 32; refine (rleft32 w base p _ c B n o HR.out).mono ?_; rintro e w1 ⟨rfl, m1, rfl⟩)
  have HR1 := Lib.hid (HR.out.drewN m1)
  go_loopw [6, 7] (fun x i wr => ∃ j : Nat, j ≤ k ∧ i = .int .i64 j ∧ x = .int .u32 (B / 2 ^ o % 2 ^ j : Nat) ∧ wr = w.drewN m1) (fun _ i _ => k - (intOf i).toNat)
  case atStart => exact ⟨0, Nat.zero_le _, rfl, by simp [Nat.mod_one], rfl⟩
  case round =>
    obtain ⟨j, hj, rfl, rfl, rfl⟩ := hrel
    obtain ⟨X, hX⟩ : ∃ X, X = B / 2 ^ o % 2 ^ j := ⟨_, rfl⟩
    have hX2 : X < 2 ^ j := by rw [hX]; exact Nat.mod_lt _ (Nat.pow_pos (by omega))
    rw [← hX]
    have HX := Lib.hid hX
    clear hX
    obtain ⟨c0, c1, f0⟩ := two_at HR1.out.blk
    by_cases hlt : j < k
    · obtain ⟨b, off, rfl, hb, hc⟩ := HR1.out.arr (by omega)
      obtain ⟨a, ha⟩ : ∃ a : Nat, ((o : Int) + j) / 8 = a := ⟨(o + j) / 8, by omega⟩
      obtain ⟨r, hr⟩ : ∃ r : Nat, ((o : Int) + j) % 8 = r := ⟨(o + j) % 8, by omega⟩
      have hcj : (w.drewN m1).cell? ⟨b, off + a, none⟩ = some (.int .u8 (byteAt B a : Nat)) := hc a (by omega)
      have hbit : byteAt B a / 2 ^ r % 2 = B / 2 ^ (o + j) % 2 := by
        have := byte_bit B (o + j)
        rwa [show (o + j) / 8 = a by omega, show (o + j) % 8 = r by omega] at this
      have hy1 := byteAt_lt B a
      obtain ⟨y, hy⟩ : ∃ y, y = byteAt B a := ⟨_, rfl⟩
      rw [← hy] at hcj hbit hy1
      have b1 : (0 : Int) ≤ a := by omega
      have b2 : (a : Int) < n := by omega
      have eb := u8_bit (y := y) (r := r) hy1
      have eo := or_bit hX2 (by omega)
      have HB := Lib.hid hbit
      have hrr : r < 8 := by omega
      clear hc hy hbit
      by_cases hz : y / 2 ^ r % 2 = 1
      · rw [hz] at eb
        have eb1 : bits .and .u8 ((y : Int) / (2 : Int) ^ r) 1 = 1 := eb
        have HZ := Lib.hid hz
        clear hz eb
        have ES := Lib.hid (bits_succ B o j)
        go_wp2_with fail
        go_roundw
        case rel =>
          refine ⟨j + 1, by omega, by go_num, ?_, by trivial⟩
          rw [ES.out, ← HX.out, ← HB.out, HZ.out, Nat.mul_one, Int.natCast_add, ← pow_cast]
        case measure => simp [intOf]; omega
      · have hz0 : y / 2 ^ r % 2 = 0 := by omega
        rw [hz0] at eb
        have eb1 : bits .and .u8 ((y : Int) / (2 : Int) ^ r) 1 = 0 := eb
        have HZ := Lib.hid hz0
        clear hz hz0 eb
        have ES := Lib.hid (bits_succ B o j)
        go_wp2_with fail
        go_roundw
        case rel =>
          refine ⟨j + 1, by omega, by go_num, ?_, by trivial⟩
          rw [ES.out, ← HX.out, ← HB.out, HZ.out, Nat.mul_zero, Nat.add_zero]
        case measure => simp [intOf]; omega
    · obtain rfl : j = k := by omega
      go_wp2_with fail
      go_ret2
      generalize hWF : World.setCell _ _ _ = WF
      have hF : WF.heap[p]? = some (.cells #[.slice A n c, .int .i64 ((o + j : Nat) : Int)] 52) := by
        rw [← hWF]
        exact heap_setCell_same _ p 1 _ 52 _ HR.out.blk
      have hK : Keeps (fun k => k = p) w WF := by rw [← hWF]; exact Keeps.trans (Keeps.drewN _ w _) (Keeps.setCell (fun k => k = p) _ ⟨p, 1, none⟩ _ rfl) fun _ _ h => h
      have hr := HR.out
      rw [HX.out]
      refine ⟨?_, ⟨hF, hr.low, hK.arr hr.arr (fun k hk e => by have := hr.low; omega), hle, hr.n_le⟩, hK⟩
      exact rfl
end Go.Proofs.Ytkkjcbakgjabdaa
