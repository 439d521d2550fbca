/- Contracts for layer 3 (bitio): Pick, SameBytes; bytes as a number. -/
import Derived.Test.YtkkjcbakgjabdaaE
namespace Go.Proofs.Ytkkjcbakgjabdaa
open Go.RowKit
theorem tmod_facts (x n : Int) (h1 : 1 ≤ n) (hx : x < 0) : x.tmod n ≤ 0 ∧ -n < x.tmod n ∧ (x.tmod n < 0 → x % n = x.tmod n + n) ∧ (x.tmod n = 0 → x % n = 0) := by
  have e : x.tmod n + n * x.tdiv n = x := Int.tmod_add_mul_tdiv x n
  have h2 : x.tmod n = -((-x) % n) := by
    rw [← Int.tmod_eq_emod_of_nonneg (by omega), Int.neg_tmod, Int.neg_neg]
  have h3 := Int.emod_nonneg (-x) (show n ≠ 0 by omega)
  have h4 := Int.emod_lt_of_pos (-x) (show 0 < n by omega)
  have h5 : x % n = x.tmod n % n := by
    conv => lhs; rw [← e]
    exact Int.add_mul_emod_self_left _ _ _
  refine ⟨by omega, by omega, fun h => ?_, fun h => by rw [h5, h]; simp⟩
  rw [h5]
  have : x.tmod n % n = (x.tmod n + n) % n := by simp
  rw [this]
  exact Int.emod_eq_of_lt (by omega) (by omega)
theorem pick13 (x n : Int) (w : World) (h1 : 1 ≤ n) (h2 : n ≤ 4611686018427387904) (hx : -9223372036854775808 ≤ x) (hx2 : x ≤ 9223372036854775807) :
    Calls Try.prog 13 #[.int .i64 x, .int .i64 n] w fun e w' => e = .returned (.int .i64 (x % n)) ∧ w = w' := by
  by_cases h0 : 0 ≤ x
  · have h3 := Int.emod_nonneg x (show n ≠ 0 by omega)
    go_enter Try.func13, Try.ntmps13
    go_wp2_with fail
    go_ret
    exact ⟨rfl, rfl⟩
  · obtain ⟨f1, f2, f3, f4⟩ := tmod_facts x n h1 (by omega)
    obtain ⟨r, hr⟩ : ∃ r, x.tmod n = r := ⟨_, rfl⟩
    rw [hr] at f1 f2 f3 f4
    have F3 := Lib.hid f3
    have F4 := Lib.hid f4
    clear f3 f4
    by_cases h5 : r < 0
    · go_enter Try.func13, Try.ntmps13
      go_wp2_with fail
      go_ret
      exact ⟨ret_int (F3.out h5).symm, rfl⟩
    · go_enter Try.func13, Try.ntmps13
      go_wp2_with fail
      go_ret
      exact ⟨ret_int (by rw [F4.out (by omega)]; omega), rfl⟩
theorem same17 (f : Nat → Int) (A A' : Option Addr) (n c c' B B' : Nat) (w : World) (hn : n ≤ 1099511627776) (ha : Arr w B A n fun k => .int .u8 (f k)) (ha' : Arr w B' A' n fun k => .int .u8 (f k)) :
    Calls Try.prog 17 #[.slice A n c, .slice A' n c'] w fun e w' => e = .returned (.bool true) ∧ ∃ m, w' = w.drewN m := by
  have HA := Lib.hid ha
  have HB := Lib.hid ha'
  clear ha ha'
  go_enter Try.func17, Try.ntmps17
  go_wp2_with fail
  go_loopw [5] (fun i wr => ∃ k : Nat, k ≤ n ∧ i = .int .i64 k ∧ ∃ m, wr = w.drewN m) (fun i _ => n - (intOf i).toNat)
  case atStart => exact ⟨0, Nat.zero_le _, rfl, 0, rfl⟩
  case round =>
    obtain ⟨k, hk, rfl, m, rfl⟩ := hrel
    by_cases hlt : k < n
    · obtain ⟨b, off, rfl, hb, hc⟩ := HA.out (by omega)
      obtain ⟨b', off', rfl, hb', hc'⟩ := HB.out (by omega)
      have hck := hc k hlt
      have hck' := hc' k hlt
      clear hc hc'
      go_wp2_with fail
      go_quiet (fail)
      go_wp2_with fail
      go_roundw
      case rel => exact ⟨k + 1, by omega, by go_num, _, rfl⟩
      case measure => simp [intOf]; omega
    · obtain rfl : k = n := by omega
      go_wp2_with fail
      go_ret
      exact ⟨rfl, m, rfl⟩
/-- Bytes as a number. -/
theorem bytes_num (f : Nat → Int) : ∀ n : Nat, (∀ j, j < n → 0 ≤ f j ∧ f j < 256) → ∃ B : Nat, B < 2 ^ (8 * n) ∧ ∀ j, j < n → f j = (byteAt B j : Nat)
  | 0, _ => ⟨0, by simp, fun j h => absurd h (by omega)⟩
  | n + 1, h => by
    obtain ⟨B, hB, hj⟩ := bytes_num f n fun j h' => h j (by omega)
    obtain ⟨x, hx⟩ : ∃ x : Nat, f n = x := ⟨(f n).toNat, by have := h n (by omega); omega⟩
    have hx2 : x < 256 := by have := h n (by omega); omega
    have e : 2 ^ (8 * (n + 1)) = 256 * 2 ^ (8 * n) := by rw [show 8 * (n + 1) = 8 * n + 8 by omega, Nat.pow_add, Nat.mul_comm]
    have h0 : 0 < 2 ^ (8 * n) := Nat.pow_pos (by omega)
    refine ⟨B + x * 2 ^ (8 * n), ?_, fun j hjn => ?_⟩
    · rw [e]
      have : (x + 1) * 2 ^ (8 * n) ≤ 256 * 2 ^ (8 * n) := Nat.mul_le_mul_right _ hx2
      rw [Nat.add_mul] at this
      omega
    · by_cases h' : j < n
      · rw [byteAt_low (by omega)]; exact hj j h'
      · obtain rfl : j = n := by omega
        rw [hx]
        unfold byteAt
        rw [Nat.add_mul_div_right _ _ h0, Nat.div_eq_of_lt hB, Nat.zero_add, Nat.mod_eq_of_lt hx2]
theorem take_bits (B o k : Nat) : B % 2 ^ o + B / 2 ^ o % 2 ^ k % 2 ^ k * 2 ^ o = B % 2 ^ (o + k) := by
  rw [Nat.mod_mod, Nat.pow_add, Nat.mod_mul, Nat.mul_comm]
/-- A writer and a reader, apart. -/
structure Both (w : World) (base p : Nat) (v : Value) (N L q : Nat) (u : Value) (B n o : Nat) : Prop where
  wr : Wr w base p v N L
  rd : Rd w base q u B n o
  ne : ∀ k, v.ownBlock = some k → u.ownBlock ≠ some k
theorem row_ne {w : World} {base p : Nat} {v : Value} {n : Nat} {xs : List Value} {cs : Array Value} {t : TypeId} (h : w.ownsRow base 5 1 v n xs) (hp : w.heap[p]? = some (.cells cs t (0, 0))) (ht : (5 : Nat) ≠ t) : v.ownBlock ≠ some p := by
  rcases h.2 with ⟨rfl, _⟩ | ⟨g, cap, cur, rfl, _, hg, _⟩
  · simp [Value.ownBlock]
  · intro he
    have : g = p := by simpa [Value.ownBlock] using he
    subst this
    rw [hg] at hp
    injection hp with hp
    injection hp with _ e
    exact ht e
theorem Both.foot_ne {w : World} {base p q B n o N L : Nat} {v u : Value} (h : Both w base p v N L q u B n o) : ∀ i, foot p v i → ¬ foot q u i := by
  rintro i (rfl | hi) (e | hj)
  · subst e
    have h1 := h.wr.blk
    rw [h.rd.blk] at h1
    injection h1 with h1
    injection h1 with h1 h2
    exact absurd h2 (by decide)
  · exact row_ne h.rd.row h.wr.blk (by decide) hj
  · subst e; exact row_ne h.wr.row h.rd.blk (by decide) hi
  · exact h.ne i hi hj
theorem Both.drewN {w : World} {base p q B n o N L : Nat} {v u : Value} (h : Both w base p v N L q u B n o) (m : Nat) : Both (w.drewN m) base p v N L q u B n o :=
  ⟨h.wr.keeps (Keeps.drewN (fun _ => False) w m) fun _ _ h => h, h.rd.keeps (Keeps.drewN (fun _ => False) w m) fun _ _ h => h, h.ne⟩
theorem Both.put {W w : World} {p q B n o N L : Nat} {v u : Value} (h : Both w W.heap.size p v N L q u B n o) (hB : Below W.heap.size W w) (V k : Nat) (hk : k ≤ 32) (hV : V < 4294967296) (hL : L ≤ 1099511627776) :
    Calls Try.prog 15 #[.pointer (some ⟨p, 0, none⟩), .int .u32 V, .int .i64 k] w fun e w' => e = .returned (.bool true) ∧ Below W.heap.size W w' ∧ ∃ v', Both w' W.heap.size p v' (N + V % 2 ^ k * 2 ^ L) (L + k) q u B n o :=
  (put15 w W.heap.size p v N L V k h.wr hk hV hL hB.size).mono fun _ _ ⟨he, v', hw', hk, hf⟩ => by
    refine ⟨he, hB.trans (hk.below (fun _ hi => (h.wr.foot_lt hi).1) hB.size), v', hw', h.rd.keeps hk fun i hi hj => h.foot_ne i hj hi, fun k hk hu => ?_⟩
    rcases hf k hk with hk | hk
    · exact h.ne k hk hu
    · have := (row_lt h.rd.row hu).2; omega
theorem Both.get {W w : World} {p q B n o N L : Nat} {v u : Value} (h : Both w W.heap.size p v N L q u B n o) (hB : Below W.heap.size W w) (k : Nat) (hk : k ≤ 32) (hle : o + k ≤ 8 * n) :
    Calls Try.prog 14 #[.pointer (some ⟨q, 0, none⟩), .int .i64 k] w fun e w' => e = .returned (.tuple #[.int .u32 (B / 2 ^ o % 2 ^ k : Nat), .bool true]) ∧ Below W.heap.size W w' ∧ Both w' W.heap.size p v N L q u B n (o + k) :=
  (get14 w W.heap.size q u B n o k h.rd hk hle).mono fun _ _ ⟨he, hr', hk'⟩ =>
    ⟨he, hB.trans (hk'.below (fun k h' => by rw [h']; exact h.rd.low) hB.size), h.wr.keeps hk' fun i hi e => h.foot_ne i hi (.inl e), hr', h.ne⟩
end Go.Proofs.Ytkkjcbakgjabdaa
