/- Contracts of the writer of layer 3 (bitio): NewWriter, Put. -/
import Derived.Test.YtkkjcbakgjabdaaA
import Derived.Test.YtkkjcbakgjabdaaProg
import Derived.WalkKit
import Derived.Deep.RegionHeld3
import Derived.Deep.RegionLaw
import Derived.BigQuiet
import Derived.Lib.Hide
namespace Go.Proofs.Ytkkjcbakgjabdaa
open Go.RowKit
theorem info5 : (Try.prog.info? 5).map (fun i => (i.zero, i.size, i.bytes)) = some (some (.int .u8 0), 1, 1) := by kernel_rfl
theorem info_parts {P : Program} {T : TypeId} {z : Value} {s b : Nat} (h : (P.info? T).map (fun i => (i.zero, i.size, i.bytes)) = some (some z, s, b)) : ∃ i, P.info? T = some i ∧ i.zero = some z ∧ i.size = s ∧ i.bytes = b := by
  cases hi : P.info? T with
  | none => simp [hi] at h
  | some i => simp [hi] at h; exact ⟨i, rfl, h.1, h.2.1, h.2.2⟩
theorem wr_at {w : World} {p : Nat} {t : TypeId} {a b c d : Value} (hb : w.heap[p]? = some (.cells #[a, b, c, d] t)) :
    w.cell? ⟨p, 0, none⟩ = some a ∧ w.cell? ⟨p, 1, none⟩ = some b ∧ w.cell? ⟨p, 2, none⟩ = some c ∧ w.cell? ⟨p, 3, none⟩ = some d ∧ ∀ k, w.frozen? ⟨p, k, none⟩ = false :=
  ⟨block_cell hb 0 _ rfl, block_cell hb 1 _ rfl, block_cell hb 2 _ rfl, block_cell hb 3 _ rfl, fun k => frozen_of_row w p k _ _ hb⟩
/-- A writer at block p that holds L bits, the number N; its whole bytes are the slice v. -/
structure Wr (w : World) (base p : Nat) (v : Value) (N L : Nat) : Prop where
  blk : w.heap[p]? = some (.cells #[.bool true, v, .int .u64 (N / 2 ^ (8 * (L / 8)) : Nat), .int .i64 (L % 8 : Nat)] 56)
  row : w.ownsRow base 5 1 v (L / 8) (bytesOf N (L / 8))
  apart : v.ownBlock ≠ some p
  lt : N < 2 ^ L
  low : base ≤ p
/-- What a writer's step may write. -/
def foot (p : Nat) (v : Value) (k : Nat) : Prop := k = p ∨ v.ownBlock = some k
theorem Wr.foot_lt {w : World} {base p : Nat} {v : Value} {N L : Nat} (h : Wr w base p v N L) {k : Nat} (hk : foot p v k) : base ≤ k ∧ k < w.heap.size := by
  rcases hk with rfl | hk
  · exact ⟨h.low, heap_lt h.blk⟩
  · exact row_lt h.row hk
theorem Wr.keeps {S : Nat → Prop} {w w' : World} {base p : Nat} {v : Value} {N L : Nat} (h : Wr w base p v N L) (k : Keeps S w w') (hS : ∀ i, foot p v i → ¬ S i) : Wr w' base p v N L :=
  ⟨k.heap h.blk (hS p (.inl rfl)), k.row h.row fun i hi => hS i (.inr hi), h.apart, h.lt, h.low⟩
theorem new10 (w : World) (base : Nat) (hb : base ≤ w.heap.size) : Calls Try.prog 10 #[] w fun e w' => e = .returned (.pointer (some ⟨w.heap.size, 0, none⟩)) ∧ Below w.heap.size w w' ∧ Wr w' base w.heap.size (.slice none 0 0) 0 0 := by
  go_enter Try.func10, Try.ntmps10
  go_wp2_with fail
  go_ret
  exact ⟨rfl, (Below.refl _ w).alloc (Nat.le_refl _) _, heap_new w _, World.ownsRow_nil _ _ _ _, by simp [Value.ownBlock], by simp, hb⟩
set_option maxHeartbeats 2000000 in
theorem put15 (w : World) (base p : Nat) (v : Value) (N L V n : Nat) (hw : Wr w base p v N L) (hn : n ≤ 32) (hV : V < 4294967296) (hL : L ≤ 1099511627776) (hbase : base ≤ w.heap.size) :
    Calls Try.prog 15 #[.pointer (some ⟨p, 0, none⟩), .int .u32 V, .int .i64 n] w fun e w' => e = .returned (.bool true) ∧ ∃ v', Wr w' base p v' (N + V % 2 ^ n * 2 ^ L) (L + n) ∧ Keeps (foot p v) w w' ∧ (∀ k, v'.ownBlock = some k → v.ownBlock = some k ∨ w.heap.size ≤ k) := by
  have HW := Lib.hid hw
  obtain ⟨c0, c1, c2, c3, f0⟩ := wr_at hw.blk
  obtain ⟨R, hR, hRv, hRlt⟩ := put_rest hV hn (Nat.mod_lt L (by omega : 8 > 0)) (rest_lt hw.lt)
  have hRe : R = (N + V % 2 ^ n * 2 ^ L) / 2 ^ (8 * (L / 8)) := by rw [rest_put]; exact hRv
  clear hw
  have HR := Lib.hid hRe
  clear hRe hRv
  have t1 : decide ((n : Int) < 0) = false := by simp
  have t2 : decide ((32 : Int) < n) = false := by simp; omega
  generalize hr0 : N / 2 ^ (8 * (L / 8)) = r0 at *
  generalize hn0 : L % 8 = n0 at *
  have hn8 : n0 < 8 := by omega
  go_enter Try.func15, Try.ntmps15
  go_wp2_with fail
  go_region
  go_wp2_with fail
  generalize hW1 : World.drew _ = W1
  generalize hM : N + V % 2 ^ n * 2 ^ L = M at *
  have hblk : W1.heap[p]? = some (.cells #[.bool true, v, .int .u64 R, .int .i64 (n0 + n : Nat)] 56) := by
    rw [← hW1]
    exact heap_setCell_same _ p 3 _ 56 _ (heap_setCell_same w p 2 _ 56 _ HW.out.blk)
  have hkp : Keeps (foot p v) w W1 := by
    rw [← hW1]
    exact ((Keeps.setCell _ w _ _ (.inl rfl)).trans (Keeps.setCell _ _ _ _ (.inl rfl)) fun _ _ h => h).trans (Keeps.drew _ _) fun _ _ h => h
  have hrow : W1.ownsRow base 5 1 v (L / 8) (bytesOf M (L / 8)) := by
    rw [← hM, bytesOf_low (by omega)]
    have : Keeps (fun k => k = p) w W1 := by
      rw [← hW1]
      exact ((Keeps.setCell (fun k => k = p) w ⟨p, 2, none⟩ _ rfl).trans (Keeps.setCell (fun k => k = p) _ ⟨p, 3, none⟩ _ rfl) fun _ _ h => h).trans (Keeps.drew (fun k => k = p) _) fun _ _ h => h
    exact this.row HW.out.row fun k hk e => HW.out.apart (by rw [hk, e])
  have hap := HW.out.apart
  have hR2 := HR.out
  clear hW1 c0 c1 c2 c3 f0 hR
  go_loopw [] (fun wr => ∃ (i : Nat) (v' : Value), 8 * i ≤ n0 + n ∧ wr.heap[p]? = some (.cells #[.bool true, v', .int .u64 (M / 2 ^ (8 * (L / 8 + i)) : Nat), .int .i64 (n0 + n - 8 * i : Nat)] 56) ∧
      wr.ownsRow base 5 1 v' (L / 8 + i) (bytesOf M (L / 8 + i)) ∧ v'.ownBlock ≠ some p ∧ Keeps (foot p v) w wr ∧ ∀ k, v'.ownBlock = some k → v.ownBlock = some k ∨ w.heap.size ≤ k) (fun wr => (intOf ((wr.cell? ⟨p, 3, none⟩).getD undef)).toNat)
  case atStart => exact ⟨0, v, by omega, by rw [hblk, hR2]; rfl, hrow, hap, hkp, fun k h => .inl h⟩
  case round =>
    clear hblk hkp hrow hap
    obtain ⟨i, v', hi, hblk, hrow, hap, hkp, hfr⟩ := hrel
    obtain ⟨q, hq⟩ : ∃ q, q = n0 + n - 8 * i := ⟨_, rfl⟩
    obtain ⟨X, hX⟩ : ∃ X, X = M / 2 ^ (8 * (L / 8 + i)) := ⟨_, rfl⟩
    rw [← hq, ← hX] at hblk
    have HB := Lib.hid hblk
    obtain ⟨c0, c1, c2, c3, f0⟩ := wr_at hblk
    clear hblk
    by_cases h8 : 8 ≤ q
    · have t3 : decide ((8 : Int) ≤ q) = true := by simp; omega
      obtain ⟨b, hb, hbv⟩ : ∃ b : Nat, IntKind.u8.wrap (X : Int) = (b : Int) ∧ b = byteAt M (L / 8 + i) := ⟨X % 256, by rw [IntKind.wrap_u8]; omega, by rw [hX]; rfl⟩
      have HX := Lib.hid hX
      have Hb := Lib.hid hbv
      have HO := Lib.hid hrow
      obtain ⟨i0, hi0, hz0, hz1, hz2⟩ := info_parts info5
      have hszr := hkp.size
      obtain ⟨_, k1, k2, _, _⟩ := wr_at (heap_old (o' := .cells #[.int .u8 b] 5) HB.out)
      have Hq := Lib.hid hq
      have hw64 : wrap64 ((q : Int) - 8) = ((q - 8 : Nat) : Int) := by unfold wrap64; omega
      have HM := Lib.hid hM
      clear hX hbv hrow hq hM hR2 hr0 hn0 hRlt t1 t2 HR
      go_wp2_with fail
      go_region_law ((refine step_append_lies _ (by rfl) (.tmp 66) (.tmp 72) 22 (by rfl) base 5 i0 (.int .u8 0) 1 1 Try.underlying22 hi0 hz0 hz1 hz2 rfl (by omega) v' (L / 8 + i) (bytesOf M (L / 8 + i)) (by simp [Act.eval]) (HO.out.alloc _) ⟨wr.heap.size, 0, none⟩ 1 1 [.int .u8 b] (by simp [Act.eval]) rfl (cell_one_new _ _ _) (by simp [Value.oneCell']) (by omega) (by unfold maxLen; omega) (by omega) (by simp; omega) _ rfl ?_); intro g cap w1 hown1 hgrow hat hlt; have HB1 := Lib.hid ((hgrow.block p (heap_lt (heap_old HB.out)) (fun e => hap e.symm)).trans (heap_old HB.out)); obtain ⟨d0, d1, d2, d3, g0⟩ := wr_at HB1.out)
      all_goals go_wp2_with fail
      all_goals
        generalize hWF : World.setCell _ _ _ = WF
        have hF : WF.heap[p]? = some (.cells #[.bool true, .slice (some ⟨g, 0, none⟩) (L / 8 + i + 1) cap, .int .u64 ((X / 256 : Nat) : Int), .int .i64 ((q - 8 : Nat) : Int)] 56) := by
          rw [← hWF, ← hw64]
          exact heap_setCell_same _ p 3 _ 56 _ (heap_setCell_same _ p 2 _ 56 _ (heap_setCell_same w1 p 1 _ 56 _ HB1.out))
        have hK1 : Keeps (fun k => k = p) w1 WF := by
          rw [← hWF]
          exact ((Keeps.setCell (fun k => k = p) w1 ⟨p, 1, none⟩ _ rfl).trans (Keeps.setCell (fun k => k = p) _ ⟨p, 2, none⟩ _ rfl) fun _ _ h => h).trans (Keeps.setCell (fun k => k = p) _ ⟨p, 3, none⟩ _ rfl) fun _ _ h => h
        clear hWF
        have hlt' : p < wr.heap.size := heap_lt HB.out
        have hgp : g ≠ p := by
          rcases hat with h | h
          · intro e; rw [e] at h; exact hap h
          · have : g = wr.heap.size + 1 := by simpa using h
            omega
        have hkf : Keeps (foot p v') wr WF := (((Keeps.alloc (foot p v') wr (.cells #[.int .u8 b] 5)).trans (Keeps.drew (foot p v') _) fun _ _ h => h).trans (Keeps.grown hgrow fun k e => .inr e) fun _ _ h => h).trans hK1 fun _ _ h => .inl h
        have hkw : Keeps (foot p v) w WF := hkp.trans hkf fun k hk h => by
          rcases h with h | h
          · exact .inl h
          · rcases hfr k h with h | h
            · exact .inr h
            · omega
        have hbk : Value.ownBlock (.slice (some ⟨g, 0, none⟩) (L / 8 + i + 1) cap) = some g := rfl
        refine ⟨⟨i + 1, .slice (some ⟨g, 0, none⟩) (L / 8 + i + 1) cap, by have := Hq.out; omega, ?_, ?_, ?_, hkw, ?_⟩, ?_⟩
        · rw [hF, show n0 + n - 8 * (i + 1) = q - 8 by have := Hq.out; omega, ← Nat.add_assoc, ← rest_step, ← HX.out]
        · rw [← Nat.add_assoc, bytesOf_succ, ← Hb.out]
          exact hK1.row hown1 fun k hk e => hgp (by rw [hbk] at hk; cases hk; exact e)
        · rw [hbk]; intro e; cases e; exact hgp rfl
        · intro k hk
          rw [hbk] at hk
          cases hk
          rcases hat with h | h
          · exact hfr _ h
          · have : g = wr.heap.size + 1 := by simpa using h
            exact .inr (by omega)
        · rw [block_cell hF 3 _ rfl, c3]
          simp [intOf]; omega
    · have t3 : decide ((8 : Int) ≤ q) = false := by simp; omega
      have HS := Lib.hid (And.intro hq (And.intro hM (And.intro hn0 hX)))
      have HO := Lib.hid hrow
      clear hq hM hn0 hX hR2 hr0 hRlt t1 t2 HR hrow
      go_wp2_with fail
      go_ret
      obtain ⟨hq, hM, hn0, hX⟩ := HS.out
      have e1 : (L + n) / 8 = L / 8 + i := by omega
      have e2 : (L + n) % 8 = q := by omega
      refine ⟨rfl, v', ⟨?_, ?_, hap, put_lt HW.out.lt, HW.out.low⟩, hkp, hfr⟩
      · rw [e1, e2, hM, ← hX]; exact HB.out
      · rw [e1, hM]; exact HO.out
end Go.Proofs.Ytkkjcbakgjabdaa
