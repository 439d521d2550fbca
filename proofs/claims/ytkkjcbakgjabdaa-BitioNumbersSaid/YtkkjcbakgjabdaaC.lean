/- Contracts of the writer of layer 3 (bitio): Align, Len, Bytes; bytes.Clone. -/
import Derived.Test.YtkkjcbakgjabdaaB
import Derived.Deep.QuietTactic
import Derived.Lib.LazyBuf
namespace Go.Proofs.Ytkkjcbakgjabdaa
open Go.RowKit
theorem wr_form {w : World} {base p : Nat} {v : Value} {N L : Nat} (h : Wr w base p v N L) : ∃ A cap, v = .slice A (L / 8) cap ∧ Arr w w.heap.size A (L / 8) (fun k => .int .u8 (byteAt N k)) ∧ (A = none → L / 8 = 0 ∧ cap = 0) := by
  obtain ⟨A, cap, e, ha, _, _, hn⟩ := row_arr h.row
  exact ⟨A, cap, e, ha, hn⟩
theorem len16 (w : World) (base p : Nat) (v : Value) (N L : Nat) (hw : Wr w base p v N L) (hL : L ≤ 1099511627776) :
    Calls Try.prog 16 #[.pointer (some ⟨p, 0, none⟩)] w fun e w' => e = .returned (.int .i64 L) ∧ ∃ m, w' = w.drewN m := by
  obtain ⟨A, cap, rfl, _, _⟩ := wr_form hw
  obtain ⟨c0, c1, c2, c3, f0⟩ := wr_at hw.blk
  clear hw
  obtain ⟨q, hq⟩ : ∃ q, q = L / 8 := ⟨_, rfl⟩
  obtain ⟨r, hr⟩ : ∃ q, q = L % 8 := ⟨_, rfl⟩
  rw [← hq] at c1
  rw [← hr] at c3
  clear c2
  have hs : 8 * q + r = L := by omega
  have HS := Lib.hid hs
  have hq2 : q ≤ 1099511627776 := by omega
  have hr2 : r < 8 := by omega
  clear hs hq hr
  go_enter Try.func16, Try.ntmps16
  go_wp2_with fail
  go_region
  go_wp2_with fail
  go_ret
  exact ⟨ret_int (by have := HS.out; show 8 * (q : Int) + r = L; omega), 1, rfl⟩
theorem align19 (w : World) (base p : Nat) (v : Value) (N L : Nat) (hw : Wr w base p v N L) (hL : L ≤ 1099511627776) (hbase : base ≤ w.heap.size) :
    Calls Try.prog 19 #[.pointer (some ⟨p, 0, none⟩)] w fun e w' => e = .returned undef ∧ ∃ v', Wr w' base p v' N (8 * ((L + 7) / 8)) ∧ Keeps (foot p v) w w' ∧ (∀ k, v'.ownBlock = some k → v.ownBlock = some k ∨ w.heap.size ≤ k) := by
  have HW := Lib.hid hw
  obtain ⟨c0, c1, c2, c3, f0⟩ := wr_at hw.blk
  clear hw
  obtain ⟨r, hr⟩ : ∃ q, q = L % 8 := ⟨_, rfl⟩
  rw [← hr] at c3
  have HR := Lib.hid hr
  have hr8 : r < 8 := by omega
  clear hr c2
  go_enter Try.func19, Try.ntmps19
  by_cases h0 : 0 < r
  · have t1 : decide ((0 : Int) < r) = true := by simp; omega
    go_wp2_with fail
    have hz : (8 : Int) - r = ((8 - r : Nat) : Int) := by omega
    rw [hz]
    refine (put15 w base p v N L 0 (8 - r) HW.out (by omega) (by omega) hL hbase).mono ?_
    rintro e w1 ⟨rfl, v', hw', hk', hf'⟩
    go_wp2_with fail
    refine bodyPost_end (results_none rfl _ _ _) rfl ?_
    refine ⟨rfl, v', ?_, hk', hf'⟩
    have e1 : 8 * ((L + 7) / 8) = L + (8 - r) := by have := HR.out; omega
    have e2 : N = N + 0 % 2 ^ (8 - r) * 2 ^ L := by simp
    rw [e1, e2]
    exact hw'
  · have t1 : decide ((0 : Int) < r) = false := by simp; omega
    go_wp2_with fail
    refine bodyPost_end (results_none rfl _ _ _) rfl ?_
    have e1 : 8 * ((L + 7) / 8) = L := by have := HR.out; omega
    rw [e1]
    exact ⟨rfl, v, HW.out, Keeps.refl _ _, fun k h => .inl h⟩
/-- bytes.Clone: the same bytes in memory of their own. -/
theorem clone33 (w : World) (f : Nat → Value) (A : Option Addr) (n c : Nat) (hn : n ≤ 1099511627776) (ha : Arr w w.heap.size A n f) (hA : A = none → n = 0 ∧ c = 0) (h1 : ∀ j, j < n → (f j).oneCell' = true) :
    Calls Try.prog 33 #[.slice A n c] w fun e w' => ∃ v, e = .returned v ∧ Below w.heap.size w w' ∧ w'.ownsRow w.heap.size 5 1 v n ((List.range n).map f) := by
  cases A with
  | none =>
    obtain ⟨rfl, rfl⟩ := hA rfl
    clear hA ha h1 hn
    have he := run_eql_slice_nil (P := Try.prog) w 22 5 none 0 0 Try.underlying22
    go_enter Try.func33, Try.ntmps33
    go_wp2_with fail
    go_ret
    exact ⟨_, rfl, Below.refl _ _, World.ownsRow_nil _ _ _ _⟩
  | some ad =>
    obtain ⟨i0, hi0, hz0, hz1, hz2⟩ := info_parts info5
    have HA := Lib.hid (ha.below ((Below.refl _ w).alloc (Nat.le_refl _) (.cells #[] 5)) (Nat.le_refl _))
    have HO := Lib.hid (World.ownsRow_lit (w := w) (base := w.heap.size) (e := 5) (size := 1) #[] 0 (Nat.le_refl _) (by unfold maxLen; omega) rfl)
    have H1 := Lib.hid h1
    clear ha hA h1
    have he := run_eql_slice_nil (P := Try.prog) w 22 5 (some ad) n c Try.underlying22
    go_enter Try.func33, Try.ntmps33
    go_wp2_with (at_builtin; refine wpList_append_own _ rfl (.tmp 5) (.tmp 6) 22 rfl w.heap.size 5 i0 (.int .u8 0) 1 1 Try.underlying22 hi0 hz0 hz1 hz2 rfl (by omega) (.slice (some ⟨w.heap.size, 0, none⟩) 0 0) 0 [] rfl HO.out ad n c ((List.range n).map f) rfl (by simp) (HA.out.cellsAt ad rfl) (by simpa using H1.out) (by unfold maxLen; omega) (by omega) (by simp) ?_; intro v' w1 hown hg _; rw [Nat.zero_add, List.nil_append] at hown)
    go_ret
    exact ⟨v', rfl, (((Below.refl _ w).alloc (Nat.le_refl _) _).grown hg (by simp) fun k e => by cases e; exact Nat.le_refl _), hown⟩
/-- Bytes: the bytes of the bits, the last one filled with noughts, in memory of their own. -/
theorem bytes18 (w : World) (base p : Nat) (v : Value) (N L : Nat) (hw : Wr w base p v N L) (hL : L ≤ 1099511627776) :
    Calls Try.prog 18 #[.pointer (some ⟨p, 0, none⟩)] w fun e w' => ∃ v', e = .returned v' ∧ Below w.heap.size w w' ∧ w'.ownsRow w.heap.size 5 1 v' ((L + 7) / 8) (bytesOf N ((L + 7) / 8)) := by
  have HW := Lib.hid hw
  obtain ⟨A, cap, rfl, ha, hA⟩ := wr_form hw
  obtain ⟨c0, c1, c2, c3, f0⟩ := wr_at hw.blk
  clear hw
  obtain ⟨q, hq⟩ : ∃ q, q = L / 8 := ⟨_, rfl⟩
  obtain ⟨r, hr⟩ : ∃ q, q = L % 8 := ⟨_, rfl⟩
  rw [← hq] at c1 ha hA
  rw [← hr] at c3
  obtain ⟨X, hX⟩ : ∃ X, X = N / 2 ^ (8 * (L / 8)) := ⟨_, rfl⟩
  rw [← hX] at c2
  have HS := Lib.hid (And.intro hq (And.intro hr hX))
  have hq2 : q ≤ 137438953472 := by omega
  have hr2 : r < 8 := by omega
  have HA := Lib.hid (And.intro ha hA)
  clear hq hr hX ha hA
  go_enter Try.func18, Try.ntmps18
  go_wp2_with fail
  refine (clone33 w _ A q cap (by omega) HA.out.1 HA.out.2 (by simp [Value.oneCell'])).mono ?_
  rintro e w1 ⟨v1, rfl, hb1, hrow1⟩
  have HB1 := Lib.hid ((hb1.block p (heap_lt HW.out.blk)).trans HW.out.blk)
  clear c0 c1 c2 c3 f0
  obtain ⟨c0, c1, c2, c3, f0⟩ := wr_at HB1.out
  have hs := HS.out
  rw [← hs.2.2] at c2
  rw [← hs.2.1] at c3
  clear hs
  have hsz1 := hb1.size
  have HO := Lib.hid hrow1
  have HB := Lib.hid hb1
  clear hrow1 hb1
  by_cases h0 : 0 < r
  · have t1 : decide ((0 : Int) < r) = true := by simp; omega
    obtain ⟨b, hb, hbv⟩ : ∃ b : Nat, IntKind.u8.wrap (X : Int) = (b : Int) ∧ b = byteAt N q := ⟨X % 256, by rw [IntKind.wrap_u8]; omega, by obtain ⟨hq, _, hX⟩ := HS.out; rw [hX, hq]; rfl⟩
    have Hb := Lib.hid hbv
    clear hbv
    obtain ⟨i0, hi0, hz0, hz1, hz2⟩ := info_parts info5
    go_wp2_with (at_builtin; refine wpList_append_own _ rfl (.tmp 16) (.tmp 22) 22 rfl w.heap.size 5 i0 (.int .u8 0) 1 1 Try.underlying22 hi0 hz0 hz1 hz2 rfl (by omega) v1 q (bytesOf N q) rfl (HO.out.alloc _) ⟨w1.heap.size, 0, none⟩ 1 1 [.int .u8 b] rfl rfl (cell_one_new _ _ _) (by simp [Value.oneCell']) (by unfold maxLen; omega) (by omega) (by simp; omega) ?_; intro v' w2 hown hg _; have HO2 := Lib.hid hown; have HG := Lib.hid hg; clear hown hg)
    go_ret
    have e1 : (L + 7) / 8 = q + 1 := by obtain ⟨hq, hr, _⟩ := HS.out; omega
    refine ⟨v', rfl, (HB.out.alloc hsz1 _).grown HG.out (by simp; omega) fun k e => (row_lt HO.out e).1, ?_⟩
    rw [e1, bytesOf_succ, ← Hb.out]
    exact HO2.out
  · have t1 : decide ((0 : Int) < r) = false := by simp; omega
    go_wp2_with fail
    go_ret
    have e1 : (L + 7) / 8 = q := by obtain ⟨hq, hr, _⟩ := HS.out; omega
    refine ⟨v1, rfl, HB.out, ?_⟩
    rw [e1]
    exact HO.out
end Go.Proofs.Ytkkjcbakgjabdaa
