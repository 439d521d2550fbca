/- Contracts of the document's writer of layer 3 (bitio). -/
import Derived.Test.YtkkjcbakgjabdaaM
import Derived.Laws.MakeOwn
namespace Go.Proofs.Ytkkjcbakgjabdaa
open Go.RowKit
theorem info4 : (Try.prog.info? 4).map (fun i => (i.zero, i.size, i.bytes)) = some (some (.bool false), 1, 1) := by kernel_rfl
/-- The document's writer at block p: L bits, of the number N; they are the slice v. -/
structure Wf (w : World) (base p : Nat) (v : Value) (N L : Nat) : Prop where
  blk : w.heap[p]? = some (.cells #[v] 42)
  row : w.ownsRow base 4 1 v L (bitsOf N L)
  lt : N < 2 ^ L
  low : base ≤ p
theorem Wf.foot_lt {w : World} {base p : Nat} {v : Value} {N L : Nat} (h : Wf w base p v N L) {k : Nat} (hk : foot p v k) : base ≤ k ∧ k < w.heap.size := by
  rcases hk with rfl | hk
  · exact ⟨h.low, heap_lt h.blk⟩
  · exact row_lt h.row hk
theorem Wf.keeps {S : Nat → Prop} {w w' : World} {base p : Nat} {v : Value} {N L : Nat} (h : Wf w base p v N L) (k : Keeps S w w') (hS : ∀ i, foot p v i → ¬ S i) : Wf w' base p v N L :=
  ⟨k.heap h.blk (hS p (.inl rfl)), k.row h.row fun i hi => hS i (.inr hi), h.lt, h.low⟩
theorem one_at {w : World} {p : Nat} {t : TypeId} {a : Value} (hb : w.heap[p]? = some (.cells #[a] t)) : w.cell? ⟨p, 0, none⟩ = some a ∧ ∀ k, w.frozen? ⟨p, k, none⟩ = false :=
  ⟨block_cell hb 0 _ rfl, fun k => frozen_of_row w p k _ _ hb⟩
/-- One bit more, behind. -/
theorem Wf.push {w w1 : World} {base p : Nat} {v v' : Value} {N L b : Nat} (h : Wf w base p v N L) (hb : b < 2) (o : Obj) (hown : w1.ownsRow base 4 1 v' (L + 1) (bitsOf N L ++ [.bool ((b : Int) == 1)]))
    (hg : (w.alloc o).grownBy w1 v.ownBlock) (hat : v'.ownBlock = v.ownBlock ∨ v'.ownBlock = some (w.alloc o).heap.size) :
    Wf (w1.setCell ⟨p, 0, none⟩ v') base p v' (N + b * 2 ^ L) (L + 1) ∧ Keeps (foot p v) w (w1.setCell ⟨p, 0, none⟩ v') := by
  have hap : v.ownBlock ≠ some p := row_blk_ne h.row h.blk (by decide)
  have hlt := heap_lt h.blk
  have hB : (w1.setCell ⟨p, 0, none⟩ v').heap[p]? = some (.cells #[v'] 42) :=
    heap_setCell_same w1 p 0 _ 42 _ ((hg.block p (by simp; omega) fun e => hap e.symm).trans (heap_old h.blk))
  have hk1 : Keeps (fun k => k = p) w1 (w1.setCell ⟨p, 0, none⟩ v') := Keeps.setCell (fun k => k = p) w1 ⟨p, 0, none⟩ _ rfl
  have hne : v'.ownBlock ≠ some p := by
    rcases hat with e | e <;> rw [e]
    · exact hap
    · simp; omega
  refine ⟨⟨hB, ?_, ?_, h.low⟩, ((Keeps.alloc (foot p v) w o).trans (Keeps.grown hg fun k e => .inr e) fun _ _ h => h).trans hk1 fun _ _ e => .inl e⟩
  · rw [bitsOf_push h.lt hb]
    exact hk1.row hown fun k hk e => hne (by rw [hk, e])
  · have h1 := h.lt
    have h2 : b * 2 ^ L ≤ 1 * 2 ^ L := Nat.mul_le_mul_right _ (by omega)
    rw [Nat.pow_succ]; omega
theorem rputno21 (w : World) (p : Nat) (V : Value) (n : Int) (hn : n < 0 ∨ 32 < n) :
    Calls Try.prog 21 #[.pointer (some ⟨p, 0, none⟩), V, .int .i64 n] w fun e w' => e = .returned (.bool false) ∧ w = w' := by
  by_cases h : n < 0
  · have t1 : decide (n < 0) = true := by simp; omega
    clear hn
    go_enter Try.func21, Try.ntmps21
    go_wp2_with fail
    go_ret
    exact ⟨rfl, rfl⟩
  · have t1 : decide (n < 0) = false := by simp; omega
    have t2 : decide (32 < n) = true := by simp; omega
    clear hn
    go_enter Try.func21, Try.ntmps21
    go_wp2_with fail
    go_ret
    exact ⟨rfl, rfl⟩
/-- What a step of the document's writer leaves. -/
def Wfs (base p : Nat) (v : Value) (w : World) (N L : Nat) (w' : World) : Prop := ∃ v', Wf w' base p v' N L ∧ Keeps (foot p v) w w' ∧ ∀ k, v'.ownBlock = some k → v.ownBlock = some k ∨ w.heap.size ≤ k
set_option maxRecDepth 100000 in
set_option maxHeartbeats 1000000 in
theorem rput21 (w : World) (base p : Nat) (v : Value) (N L V n : Nat) (hw : Wf w base p v N L) (hn : n ≤ 32) (hV : V < 4294967296) (hL : L ≤ 1099511627776) (hbase : base ≤ w.heap.size) :
    Calls Try.prog 21 #[.pointer (some ⟨p, 0, none⟩), .int .u32 V, .int .i64 n] w fun e w' => e = .returned (.bool true) ∧ Wfs base p v w (N + V % 2 ^ n * 2 ^ L) (L + n) w' := by
  have HW := Lib.hid hw
  clear hw
  have t1 : decide ((n : Int) < 0) = false := by simp
  have t2 : decide ((32 : Int) < n) = false := by simp; omega
  obtain ⟨i0, hi0, hz0, hz1, hz2⟩ := info_parts info4
  go_enter Try.func21, Try.ntmps21
  go_wp2_with fail
  go_loopw [7] (fun i wr => ∃ j : Nat, j ≤ n ∧ i = .int .i64 j ∧ Wfs base p v w (N + V % 2 ^ j * 2 ^ L) (L + j) wr) (fun i _ => n - (intOf i).toNat)
  case atStart => exact ⟨0, Nat.zero_le _, rfl, v, by simpa [Nat.mod_one] using HW.out, Keeps.refl _ _, fun k h => .inl h⟩
  case round =>
    obtain ⟨j, hj, rfl, v1, hw1, hk1, hf1⟩ := hrel
    have HR := Lib.hid (And.intro hw1 (And.intro hk1 hf1))
    have hsz := hk1.size
    obtain ⟨c0, f0⟩ := one_at hw1.blk
    clear hw1 hk1 hf1
    by_cases hlt : j < n
    · have eb := u32_bit (y := V) (r := j) hV
      have hb2 : V / 2 ^ j % 2 < 2 := Nat.mod_lt _ (by omega)
      have EN : Hid (N + V % 2 ^ (j + 1) * 2 ^ L = N + V % 2 ^ j * 2 ^ L + V / 2 ^ j % 2 * 2 ^ (L + j)) := Lib.hid (by
        rw [Nat.pow_succ, Nat.mod_mul, Nat.add_mul, ← Nat.add_assoc, Nat.pow_add]
        congr 1
        rw [Nat.mul_comm (2 ^ j), Nat.mul_assoc, Nat.mul_comm (2 ^ j)])
      obtain ⟨b, hb⟩ : ∃ b, b = V / 2 ^ j % 2 := ⟨_, rfl⟩
      rw [← hb] at eb hb2 EN
      clear hb
      go_wp2_with (at_builtin; refine wpList_append_lies _ rfl (.tmp 23) (.tmp 30) 40 rfl base 4 i0 (.bool false) 1 1 Try.underlying40 hi0 hz0 hz1 hz2 rfl (by omega) v1 (L + j) _ rfl (HR.out.1.row.alloc _) ⟨wr.heap.size, 0, none⟩ 1 1 [.bool ((b : Int) == 1)] rfl rfl (cell_one_new _ _ _) (by simp [Value.oneCell']) (by omega) (by unfold maxLen; omega) (by omega) (by simp; omega) _ rfl ?_; intro g cap w2 hown hg hat _; have HP := Lib.hid (HR.out.1.push hb2 _ hown hg (hat.elim (fun e => .inl e.symm) fun e => .inr (congrArg some e))); have HT := Lib.hid hat; obtain ⟨d0, g0⟩ := one_at ((hg.block p (by simp; have := heap_lt HR.out.1.blk; omega) fun e => row_blk_ne HR.out.1.row HR.out.1.blk (by decide) e.symm).trans (heap_old HR.out.1.blk)); clear hown hg hat)
      go_roundw
      case rel =>
        refine ⟨j + 1, by omega, by go_num, .slice (some ⟨g, 0, none⟩) (L + j + 1) cap, ?_, HR.out.2.1.trans HP.out.2 fun k hk h => ?_, fun k hk => ?_⟩
        · rw [EN.out]; exact HP.out.1
        · rcases h with h | h
          · exact .inl h
          · rcases HR.out.2.2 k h with h | h
            · exact .inr h
            · omega
        · have e1 : g = k := by simpa [Value.ownBlock] using hk
          subst e1
          rcases HT.out with e | e
          · exact HR.out.2.2 g e
          · have : g = wr.heap.size + 1 := by simpa using e
            exact .inr (by omega)
      case measure => simp [intOf]; omega
    · obtain rfl : j = n := by omega
      go_wp2_with fail
      go_ret
      exact ⟨rfl, v1, HR.out⟩
def lenOf : Value → Nat
  | .slice _ n _ => n
  | _ => 0
set_option maxRecDepth 100000 in
set_option maxHeartbeats 1000000 in
theorem ralign20 (w : World) (base p : Nat) (v : Value) (N L : Nat) (hw : Wf w base p v N L) (hL : L ≤ 1099511627776) (hbase : base ≤ w.heap.size) :
    Calls Try.prog 20 #[.pointer (some ⟨p, 0, none⟩)] w fun e w' => e = .returned undef ∧ Wfs base p v w N (up8 L) w' := by
  have HW := Lib.hid hw
  clear hw
  obtain ⟨i0, hi0, hz0, hz1, hz2⟩ := info_parts info4
  obtain ⟨u, hu⟩ : ∃ u, u = up8 L := ⟨_, rfl⟩
  have hu1 : L ≤ u ∧ u ≤ L + 7 := by unfold up8 at hu; omega
  have hu2 : u % 8 = 0 := by unfold up8 at hu; omega
  rw [← hu]
  have HU := Lib.hid hu2
  clear hu hu2
  go_enter Try.func20, Try.ntmps20
  go_wp2_with fail
  go_loopw [] (fun wr => ∃ m : Nat, L ≤ m ∧ m ≤ u ∧ Wfs base p v w N m wr) (fun wr => u - lenOf ((wr.cell? ⟨p, 0, none⟩).getD undef))
  case atStart => exact ⟨L, Nat.le_refl _, hu1.1, v, HW.out, Keeps.refl _ _, fun k h => .inl h⟩
  case round =>
    obtain ⟨m, hm1, hm2, v1, hw1, hk1, hf1⟩ := hrel
    obtain ⟨A, cap, rfl, _, _, _, _⟩ := row_arr (f := fun i => .bool (N.testBit i)) hw1.row
    have HR := Lib.hid (And.intro hw1 (And.intro hk1 hf1))
    have hsz := hk1.size
    obtain ⟨c0, f0⟩ := one_at hw1.blk
    clear hw1 hk1 hf1
    obtain ⟨r, hr⟩ : ∃ r : Nat, (m : Int) % 8 = r := ⟨m % 8, by omega⟩
    by_cases hz : r = 0
    · have t1 : ((r : Int) != 0) = false := by rw [hz]; rfl
      have HM : Hid (m = u) := Lib.hid (by have := HU.out; omega)
      clear hz
      go_wp2_with fail
      refine bodyPost_end (results_none rfl _ _ _) rfl ?_
      rw [← HM.out]
      exact ⟨rfl, _, HR.out⟩
    · have t1 : ((r : Int) != 0) = true := by simp; omega
      have hlt : m < u := by have := HU.out; omega
      clear hz
      go_wp2_with (at_builtin; refine wpList_append_lies _ rfl (.tmp 13) (.tmp 14) 40 rfl base 4 i0 (.bool false) 1 1 Try.underlying40 hi0 hz0 hz1 hz2 rfl (by omega) (.slice A m cap) m _ rfl (HR.out.1.row.alloc _) ⟨wr.heap.size, 0, none⟩ 1 1 [.bool (((0 : Nat) : Int) == 1)] rfl rfl (cell_one_new _ _ _) (by simp [Value.oneCell']) (by omega) (by unfold maxLen; omega) (by omega) (by simp; omega) _ rfl ?_; intro g cap2 w2 hown hg hat _; have HP := Lib.hid (HR.out.1.push (by omega) _ hown hg (hat.elim (fun e => .inl e.symm) fun e => .inr (congrArg some e))); have HT := Lib.hid hat; obtain ⟨d0, g0⟩ := one_at ((hg.block p (by simp; have := heap_lt HR.out.1.blk; omega) fun e => row_blk_ne HR.out.1.row HR.out.1.blk (by decide) e.symm).trans (heap_old HR.out.1.blk)); clear hown hg hat)
      generalize hWF : World.setCell _ _ _ = WF
      have hP := HP.out
      rw [hWF, Nat.zero_mul, Nat.add_zero] at hP
      refine ⟨⟨m + 1, by omega, by omega, .slice (some ⟨g, 0, none⟩) (m + 1) cap2, hP.1, HR.out.2.1.trans hP.2 fun k hk h => ?_, fun k hk => ?_⟩, ?_⟩
      · rcases h with h | h
        · exact .inl h
        · rcases HR.out.2.2 k h with h | h
          · exact .inr h
          · omega
      · have e1 : g = k := by simpa [Value.ownBlock] using hk
        subst e1
        rcases HT.out with e | e
        · exact HR.out.2.2 g e
        · have : g = wr.heap.size + 1 := by simpa using e
          exact .inr (by omega)
      · rw [(one_at hP.1.blk).1, c0]
        simp only [Option.getD_some, lenOf]
        omega
end Go.Proofs.Ytkkjcbakgjabdaa
