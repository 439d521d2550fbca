/- Both writers of layer 3 (bitio) beside each other, and a row of bytes. -/
import Derived.Test.YtkkjcbakgjabdaaP
import Derived.Test.YtkkjcbakgjabdaaO
import Derived.Test.YtkkjcbakgjabdaaKt
import Derived.Test.YtkkjcbakgjabdaaKh
namespace Go.Proofs.Ytkkjcbakgjabdaa
open Go.RowKit
/-- A row of bytes in a call's own memory, not the writer's. -/
def Bt (base : Nat) (w : World) (bt v : Value) : Prop := ∃ (nb : Nat) (f : Nat → Int), w.ownsRow base 5 1 bt nb ((List.range nb).map fun i => .int .u8 (f i)) ∧ nb ≤ 100000 ∧ ∀ x, bt.ownBlock = some x → v.ownBlock ≠ some x
structure Wz (W w : World) (p : Nat) (v : Value) (N L q : Nat) (u : Value) (N' L' : Nat) (bt : Value) : Prop where
  wr : Wr w W.heap.size p v N L
  wf : Wf w W.heap.size q u N' L'
  bt : Bt W.heap.size w bt v
  below : Below W.heap.size W w
theorem bt_keeps {base : Nat} {w w' : World} {S : Nat → Prop} {bt v : Value} (h : Bt base w bt v) (hk : Keeps S w w') (hS : ∀ x, bt.ownBlock = some x → ¬ S x) : Bt base w' bt v := by
  obtain ⟨nb, f, ho, hn, hne⟩ := h
  exact ⟨nb, f, hk.row ho hS, hn, hne⟩
theorem bt_lt {base : Nat} {w : World} {bt v : Value} (h : Bt base w bt v) {x : Nat} (hx : bt.ownBlock = some x) : base ≤ x ∧ x < w.heap.size := by
  obtain ⟨nb, f, ho, _⟩ := h
  exact row_lt ho hx
theorem Wz.fresh {W w w' : World} {p q N L N' L' : Nat} {v u bt : Value} (h : Wz W w p v N L q u N' L' bt) (hb : Below w.heap.size w w') : Wz W w' p v N L q u N' L' bt :=
  ⟨h.wr.keeps (Keeps.fresh (S := fun _ => False) hb) fun _ _ h => h, h.wf.keeps (Keeps.fresh (S := fun _ => False) hb) fun _ _ h => h, bt_keeps h.bt (Keeps.fresh (S := fun _ => False) hb) fun _ _ h => h, h.below.trans (hb.mono h.below.size)⟩
theorem Wz.drewN {W w : World} {p q N L N' L' : Nat} {v u bt : Value} (h : Wz W w p v N L q u N' L' bt) (m : Nat) : Wz W (w.drewN m) p v N L q u N' L' bt := h.fresh (below_drewN (Below.refl _ _) m)
theorem Wz.stepW {W w w' : World} {p q N L N1 L1 N' L' : Nat} {v v1 u bt : Value} (h : Wz W w p v N L q u N' L' bt) (hw : Wr w' W.heap.size p v1 N1 L1) (hk : Keeps (foot p v) w w') (hf : ∀ k, v1.ownBlock = some k → v.ownBlock = some k ∨ w.heap.size ≤ k) : Wz W w' p v1 N1 L1 q u N' L' bt := by
  refine ⟨hw, h.wf.keeps hk fun i hi hj => ?_, ?_, h.below.trans (hk.below (fun _ hi => (h.wr.foot_lt hi).1) h.below.size)⟩
  · rcases hi with rfl | hi <;> rcases hj with hj | hj
    · exact blk_blk_ne h.wf.blk h.wr.blk (by decide) hj
    · exact row_blk_ne h.wr.row h.wf.blk (by decide) hj
    · subst hj; exact row_blk_ne h.wf.row h.wr.blk (by decide) hi
    · exact row_row_ne h.wf.row h.wr.row (by decide) i hi hj
  · obtain ⟨nb, f, ho, hn, hne⟩ := h.bt
    refine ⟨nb, f, hk.row ho fun x hx hfx => ?_, hn, fun x hx hx1 => ?_⟩
    · rcases hfx with rfl | hfx
      · exact row_blk_ne ho h.wr.blk (by decide) hx
      · exact hne x hx hfx
    · rcases hf x hx1 with h1 | h1
      · exact hne x hx h1
      · have := (row_lt ho hx).2; omega
theorem Wz.stepF {W w w' : World} {p q N L N' L' N1 L1 : Nat} {v u bt : Value} (h : Wz W w p v N L q u N' L' bt) (hs : Wfs W.heap.size q u w N1 L1 w') : ∃ u1, Wz W w' p v N L q u1 N1 L1 bt := by
  obtain ⟨u1, hw, hk, _⟩ := hs
  refine ⟨u1, h.wr.keeps hk fun i hi hj => ?_, hw, bt_keeps h.bt hk fun x hx hj => ?_, h.below.trans (hk.below (fun _ hi => (h.wf.foot_lt hi).1) h.below.size)⟩
  · rcases hi with rfl | hi <;> rcases hj with hj | hj
    · exact blk_blk_ne h.wr.blk h.wf.blk (by decide) hj
    · exact row_blk_ne h.wf.row h.wr.blk (by decide) hj
    · subst hj; exact row_blk_ne h.wr.row h.wf.blk (by decide) hi
    · exact row_row_ne h.wr.row h.wf.row (by decide) i hi hj
  · obtain ⟨nb, f, ho, _, _⟩ := h.bt
    rcases hj with rfl | hj
    · exact row_blk_ne ho h.wf.blk (by decide) hx
    · exact row_row_ne ho h.wf.row (by decide) x hx hj
theorem Wz.align {W w : World} {p q N L N' L' : Nat} {v u bt : Value} (h : Wz W w p v N L q u N' L' bt) (hL : L ≤ 1099511627776) :
    Calls Try.prog 19 #[.pointer (some ⟨p, 0, none⟩)] w fun e w' => e = .returned undef ∧ ∃ v', Wz W w' p v' N (up8 L) q u N' L' bt :=
  (align19 w _ p v N L h.wr hL h.below.size).mono fun _ _ ⟨he, v', hw, hk, hf⟩ => ⟨he, v', h.stepW hw hk hf⟩
theorem Wz.ralign {W w : World} {p q N L N' L' : Nat} {v u bt : Value} (h : Wz W w p v N L q u N' L' bt) (hL : L' ≤ 1099511627776) :
    Calls Try.prog 20 #[.pointer (some ⟨q, 0, none⟩)] w fun e w' => e = .returned undef ∧ ∃ u', Wz W w' p v N L q u' N' (up8 L') bt :=
  (ralign20 w _ q u N' L' h.wf hL h.below.size).mono fun _ _ ⟨he, hs⟩ => ⟨he, h.stepF hs⟩
theorem Wz.put {W w : World} {p q N L N' L' : Nat} {v u bt : Value} (h : Wz W w p v N L q u N' L' bt) (V n : Nat) (hn : n ≤ 32) (hV : V < 4294967296) (hL : L ≤ 1099511627776) :
    Calls Try.prog 15 #[.pointer (some ⟨p, 0, none⟩), .int .u32 V, .int .i64 n] w fun e w' => e = .returned (.bool true) ∧ ∃ v', Wz W w' p v' (N + V % 2 ^ n * 2 ^ L) (L + n) q u N' L' bt :=
  (put15 w _ p v N L V n h.wr hn hV hL h.below.size).mono fun _ _ ⟨he, v', hw, hk, hf⟩ => ⟨he, v', h.stepW hw hk hf⟩
theorem Wz.rput {W w : World} {p q N L N' L' : Nat} {v u bt : Value} (h : Wz W w p v N L q u N' L' bt) (V n : Nat) (hn : n ≤ 32) (hV : V < 4294967296) (hL : L' ≤ 1099511627776) :
    Calls Try.prog 21 #[.pointer (some ⟨q, 0, none⟩), .int .u32 V, .int .i64 n] w fun e w' => e = .returned (.bool true) ∧ ∃ u', Wz W w' p v N L q u' (N' + V % 2 ^ n * 2 ^ L') (L' + n) bt :=
  (rput21 w _ q u N' L' V n h.wf hn hV hL h.below.size).mono fun _ _ ⟨he, hs⟩ => ⟨he, h.stepF hs⟩
/-- The bytes, told anew: they are the row beside the writers now. -/
theorem Wz.bytes {W w : World} {p q N L N' L' : Nat} {v u bt : Value} (h : Wz W w p v N L q u N' L' bt) (hL : L ≤ 100000) :
    Calls Try.prog 18 #[.pointer (some ⟨p, 0, none⟩)] w fun e w' => ∃ A c, e = .returned (.slice A ((L + 7) / 8) c) ∧ Wz W w' p v N L q u N' L' (.slice A ((L + 7) / 8) c) ∧ w'.ownsRow w.heap.size 5 1 (.slice A ((L + 7) / 8) c) ((L + 7) / 8) (bytesOf N ((L + 7) / 8)) ∧ Below w.heap.size w w' :=
  (bytes18 w _ p v N L h.wr (by omega)).mono fun _ _ ⟨v', he, hb, ho⟩ => by
    obtain ⟨A, c, rfl⟩ := row_shape ho
    have hz := h.fresh hb
    exact ⟨A, c, he, ⟨hz.wr, hz.wf, ⟨_, fun i => (byteAt N i : Nat), row_more ho h.below.size, by omega, fun x hx hx2 => by
      have h1 := (row_lt ho hx).1
      have h2 := (row_lt h.wr.row hx2).2
      omega⟩, hz.below⟩, ho, hb⟩
theorem Wz.turn {W w : World} {p q N L N' L' : Nat} {v u bt : Value} (h : Wz W w p v N L q u N' L' bt) :
    Calls Try.prog 23 #[bt] w fun e w' => e = .returned undef ∧ Wz W w' p v N L q u N' L' bt := by
  obtain ⟨nb, f, ho, hn, hne⟩ := h.bt
  refine (turnB w _ bt nb f (by omega) ho).mono ?_
  rintro e w' ⟨he, hk, g, hg⟩
  refine ⟨he, h.wr.keeps hk fun i hi hx => ?_, h.wf.keeps hk fun i hi hx => ?_, ⟨nb, g, hg, hn, hne⟩, h.below.trans (hk.below (fun x hx => (row_lt ho hx).1) h.below.size)⟩
  · rcases hi with rfl | hi
    · exact row_blk_ne ho h.wr.blk (by decide) hx
    · exact hne i hx hi
  · rcases hi with rfl | hi
    · exact row_blk_ne ho h.wf.blk (by decide) hx
    · exact row_row_ne ho h.wf.row (by decide) i hx hi
/-- Three rows that lie apart, in a list of their own. -/
theorem apart3 (w : World) (base : Nat) (Aa Ab Ac : Option Addr) (na nb nc ca cb cc : Nat) (fa fb fc : Nat → Int) (ha : w.ownsRow base 5 1 (.slice Aa na ca) na ((List.range na).map fun i => .int .u8 (fa i))) (hb : w.ownsRow base 5 1 (.slice Ab nb cb) nb ((List.range nb).map fun i => .int .u8 (fb i)))
    (hc : w.ownsRow base 5 1 (.slice Ac nc cc) nc ((List.range nc).map fun i => .int .u8 (fc i))) (h1 : na ≤ 900000000) (h2 : nb ≤ 900000000) (h3 : nc ≤ 900000000)
    (dab : ∀ x, (Value.slice Aa na ca).ownBlock = some x → (Value.slice Ab nb cb).ownBlock ≠ some x) (dac : ∀ x, (Value.slice Aa na ca).ownBlock = some x → (Value.slice Ac nc cc).ownBlock ≠ some x) (dbc : ∀ x, (Value.slice Ab nb cb).ownBlock = some x → (Value.slice Ac nc cc).ownBlock ≠ some x) (hbase : base ≤ w.heap.size) :
    Calls Try.prog 24 #[.slice (some ⟨w.heap.size, 0, none⟩) 3 3] (w.alloc (.cells #[.slice Aa na ca, .slice Ab nb cb, .slice Ac nc cc] 22)) fun e w' => e = .returned (.bool true) ∧ Keeps (fun x => (Value.slice Aa na ca).ownBlock = some x ∨ (Value.slice Ab nb cb).ownBlock = some x ∨ (Value.slice Ac nc cc).ownBlock = some x) w w' := by
  have hk : Keeps (fun _ => False) w (w.alloc (.cells #[.slice Aa na ca, .slice Ab nb cb, .slice Ac nc cc] 22)) := Keeps.alloc _ w _
  refine (apartB _ base 3 3 (some ⟨w.heap.size, 0, none⟩) (fun j => match j with | 0 => Aa | 1 => Ab | _ => Ac) (fun j => match j with | 0 => na | 1 => nb | _ => nc) (fun j => match j with | 0 => ca | 1 => cb | _ => cc) (by omega) (by omega) (fun j hj => ?_) (Arr.ofBlock 3 _ (heap_new w _) fun j hj => ?_) (fun j hj => ?_) (fun j k hj hk hne x hx => ?_) (by simp; omega)).mono ?_
  · match j, hj with
    | 0, _ => exact h1
    | 1, _ => exact h2
    | 2, _ => exact h3
  · match j, hj with
    | 0, _ => rfl
    | 1, _ => rfl
    | 2, _ => rfl
  · match j, hj with
    | 0, _ => exact ⟨_, fun i hi => absurd hi (by omega), fun _ => rfl, hk.row ha fun _ _ h => h⟩
    | 1, _ => exact ⟨_, fun i hi => absurd hi (by omega), fun _ => rfl, hk.row hb fun _ _ h => h⟩
    | 2, _ => exact ⟨_, fun i hi => absurd hi (by omega), fun _ => rfl, hk.row hc fun _ _ h => h⟩
  · match j, hj, k, hk with
    | 0, _, 0, _ => exact absurd rfl hne
    | 0, _, 1, _ => exact dab x hx
    | 0, _, 2, _ => exact dac x hx
    | 1, _, 0, _ => exact fun h => dab x h hx
    | 1, _, 1, _ => exact absurd rfl hne
    | 1, _, 2, _ => exact dbc x hx
    | 2, _, 0, _ => exact fun h => dac x h hx
    | 2, _, 1, _ => exact fun h => dbc x h hx
    | 2, _, 2, _ => exact absurd rfl hne
  · rintro e w' ⟨he, hk2⟩
    refine ⟨he, (Keeps.alloc _ w _).trans hk2 fun x _ hx => ?_⟩
    obtain ⟨j, hj, hx⟩ := hx
    match j, hj with
    | 0, _ => exact .inl hx
    | 1, _ => exact .inr (.inl hx)
    | 2, _ => exact .inr (.inr hx)
/-- The writers, where three rows have turned. -/
theorem Wz.apart {W w w' : World} {p q N L N' L' z : Nat} {v u bt : Value} (h : Wz W w p v N L q u N' L' bt) {R : Nat → Prop} (hk : Keeps R w w') (hz : W.heap.size ≤ z) (hp : ∀ x, foot p v x → x < z) (hq : ∀ x, foot q u x → x < z)
    (hR : ∀ x, R x → z ≤ x ∨ bt.ownBlock = some x) : Wr w' W.heap.size p v N L ∧ Wf w' W.heap.size q u N' L' ∧ Below W.heap.size W w' := by
  obtain ⟨nb, f, ho, _, hne⟩ := h.bt
  refine ⟨h.wr.keeps hk fun i hi hx => ?_, h.wf.keeps hk fun i hi hx => ?_, h.below.trans (hk.below (fun x hx => ?_) h.below.size)⟩
  · rcases hR i hx with h1 | h1
    · have := hp i hi; omega
    · rcases hi with rfl | hi
      · exact row_blk_ne ho h.wr.blk (by decide) h1
      · exact hne i h1 hi
  · rcases hR i hx with h1 | h1
    · have := hq i hi; omega
    · rcases hi with rfl | hi
      · exact row_blk_ne ho h.wf.blk (by decide) h1
      · exact row_row_ne ho h.wf.row (by decide) i h1 hi
  · rcases hR x hx with h1 | h1
    · omega
    · exact (row_lt ho h1).1
end Go.Proofs.Ytkkjcbakgjabdaa
