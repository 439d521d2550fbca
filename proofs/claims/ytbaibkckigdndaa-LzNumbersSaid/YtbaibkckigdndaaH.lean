/- The kit's lists of pieces and bytes: lent, kept, the same, copied; numbers brought into a range. -/
import Derived.Test.YtbaibkckigdndaaG
import Derived.Test.YtbaibkckigdndaaKb
namespace Go.Proofs.Ytbaibkckigdndaa
open Go.RowKit
abbrev pv (p : Pc) : Value := .agg #[.int .u8 p.byte, .int .i64 p.len, .int .i64 p.dist]
theorem one15 (x : Int) (w : World) : Calls Try.prog 15 #[.int .u8 x] w fun e w' => e = .returned (pv ⟨x, 0, 0⟩) ∧ Below w.heap.size w w' := by
  go_enter Try.func15, Try.ntmps15
  go_wp2_with fail
  exact bodyPost_ret (v := pv ⟨x, 0, 0⟩) (by simp [results, Try.f15, go_sem, pv]) rfl ⟨rfl, (Below.refl _ _).alloc (Nat.le_refl _) _⟩
theorem match16 (x y : Int) (w : World) : Calls Try.prog 16 #[.int .i64 x, .int .i64 y] w fun e w' => e = .returned (pv ⟨0, x, y⟩) ∧ Below w.heap.size w w' := by
  go_enter Try.func16, Try.ntmps16
  go_wp2_with fail
  exact bodyPost_ret (v := pv ⟨0, x, y⟩) (by simp [results, Try.f16, go_sem, pv]) rfl ⟨rfl, (Below.refl _ _).alloc (Nat.le_refl _) _⟩
def mkP (k i : Nat) : Pc := ⟨0, (1000003 * (k + 7) + i : Nat), 0⟩
theorem markP (k i : Nat) (w : World) (hk : k < 100000) (hi : i < 1000000000) : Calls Try.prog 26 #[.int .i64 k, .int .i64 i] w fun e w' => e = .returned (pv (mkP k i)) ∧ Below w.heap.size w w' := by
  go_enter Try.func26, Try.ntmps26
  go_wp2_with fail
  refine (mark_k k i _ hk hi).mono ?_
  rintro e _ ⟨rfl, rfl⟩
  obtain ⟨x, hx⟩ : ∃ x, x = 1000003 * (k + 7) + i := ⟨_, rfl⟩
  have e : mkP k i = ⟨0, (x : Nat), 0⟩ := by rw [hx]; rfl
  have HE := Lib.hid e
  rw [← hx]
  clear e hx
  go_wp2_with fail
  exact bodyPost_ret (v := pv ⟨0, (x : Nat), 0⟩) (by simp [results, Try.f26, go_sem, pv]) rfl ⟨by rw [HE.out], (Below.refl _ _).alloc (Nat.le_refl _) _⟩
theorem same12 (f : Nat → Int) (A A' : Option Addr) (n c c' B B' : Nat) (w : World) (hn : n ≤ 1099511627776) (ha : Arr w B A n fun k => .int .u8 (f k)) (ha' : Arr w B' A' n fun k => .int .u8 (f k)) :
    Calls Try.prog 12 #[.slice A n c, .slice A' n c'] w fun e w' => e = .returned (.bool true) ∧ ∃ m, w' = w.drewN m := by
  have HA := Lib.hid ha
  have HB := Lib.hid ha'
  clear ha ha'
  go_enter Try.func12, Try.ntmps12
  go_wp2_with fail
  go_loopw [5] (fun i wr => ∃ k : Nat, k ≤ n ∧ i = .int .i64 k ∧ ∃ m, wr = w.drewN m) (fun i _ => n - (intOf i).toNat)
  case atStart => exact ⟨0, Nat.zero_le _, rfl, 0, rfl⟩
  case round =>
    obtain ⟨k, hk, rfl, m, rfl⟩ := hrel
    by_cases hlt : k < n
    · obtain ⟨b, off, rfl, hb, hc⟩ := HA.out (by omega)
      obtain ⟨b', off', rfl, hb', hc'⟩ := HB.out (by omega)
      have hck := hc k hlt
      have hck' := hc' k hlt
      clear hc hc'
      go_wp2_with fail
      go_quiet (fail)
      go_wp2_with fail
      go_roundw
      case rel => exact ⟨k + 1, by omega, by go_num, _, rfl⟩
      case measure => simp [intOf]; omega
    · obtain rfl : k = n := by omega
      go_wp2_with fail
      go_ret
      exact ⟨rfl, m, rfl⟩
/-- A piece's cells. -/
theorem sarr_at {w : World} {b off n : Nat} {P : Nat → Pc} (hc : ∀ j, j < n → w.rangeAt b (off + j * 3) (pcsF P j)) {k : Nat} (hk : k < n) : w.cell? ⟨b, off + k * 3, none⟩ = some (.int .u8 (P k).byte) ∧ w.cell? ⟨b, off + k * 3 + 1, none⟩ = some (.int .i64 (P k).len) ∧ w.cell? ⟨b, off + k * 3 + 2, none⟩ = some (.int .i64 (P k).dist) :=
  ⟨hc k hk 0 _ rfl, hc k hk 1 _ rfl, hc k hk 2 _ rfl⟩
theorem same21 (P : Nat → Pc) (A A' : Option Addr) (n c c' B B' : Nat) (w : World) (hn : n ≤ 1099511627776) (ha : SArr w B A n 3 (pcsF P)) (ha' : SArr w B' A' n 3 (pcsF P)) :
    Calls Try.prog 21 #[.slice A n c, .slice A' n c'] w fun e w' => e = .returned (.bool true) ∧ ∃ m, w' = w.drewN m := by
  have HA := Lib.hid ha
  have HB := Lib.hid ha'
  clear ha ha'
  go_enter Try.func21, Try.ntmps21
  go_wp2_with fail
  go_loopw [5] (fun i wr => ∃ k : Nat, k ≤ n ∧ i = .int .i64 k ∧ ∃ m, wr = w.drewN m) (fun i _ => n - (intOf i).toNat)
  case atStart => exact ⟨0, Nat.zero_le _, rfl, 0, rfl⟩
  case round =>
    obtain ⟨k, hk, rfl, m, rfl⟩ := hrel
    by_cases hlt : k < n
    · obtain ⟨b, off, rfl, hb, hc⟩ := HA.out (by omega)
      obtain ⟨b', off', rfl, hb', hc'⟩ := HB.out (by omega)
      obtain ⟨c0, c1, c2⟩ := sarr_at hc hlt
      obtain ⟨d0, d1, d2⟩ := sarr_at hc' hlt
      obtain ⟨p, hp⟩ : ∃ p, p = P k := ⟨_, rfl⟩
      rw [← hp] at c0 c1 c2 d0 d1 d2
      clear hc hc' hp
      go_wp2_with fail
      go_quiet (fail)
      go_wp2_with fail
      go_roundw
      case rel => exact ⟨k + 1, by omega, by go_num, _, rfl⟩
      case measure => simp [intOf]; omega
    · obtain rfl : k = n := by omega
      go_wp2_with fail
      go_ret
      exact ⟨rfl, m, rfl⟩
theorem copy17 (P : Nat → Pc) (A : Option Addr) (n c : Nat) (w : World) (hn : n ≤ 1099511627776) (hA : A = none → n = 0 ∧ c = 0) (ha : SArr w w.heap.size A n 3 (pcsF P)) :
    Calls Try.prog 17 #[.slice A n c] w fun e w' => ∃ v, e = .returned v ∧ w'.ownsRow w.heap.size 35 3 v n (flatS (pcsF P) n) ∧ Below w.heap.size w w' := by
  obtain ⟨i1, ji, jz0, jz1, jz2⟩ := infoParts info35
  have HO : Hid (∀ u ∈ flatS (pcsF P) n, u.oneCell' = true) := Lib.hid (flatS_one fun j _ u hu => by
    simp [pcsF, Pc.cells] at hu
    rcases hu with rfl | rfl | rfl <;> rfl)
  have HL : Hid ((flatS (pcsF P) n).length = n * 3) := Lib.hid (flatS_len (wide_pcs P) n)
  cases A with
  | none =>
    obtain ⟨rfl, rfl⟩ := hA rfl
    clear hA ha
    go_enter Try.func17, Try.ntmps17
    go_wp2_with fail
    go_ret
    exact ⟨_, rfl, ⟨rfl, .inl ⟨rfl, rfl⟩⟩, Below.refl _ _⟩
  | some ad =>
    have HC := Lib.hid (fun j u h => ha.cellsAt (wide_pcs P) ad rfl j u h)
    clear hA ha
    go_enter Try.func17, Try.ntmps17
    go_wp2_with (at_builtin; refine wpList_append_own _ rfl _ _ 22 rfl w.heap.size 35 i1 (.agg #[.int .u8 0, .int .i64 0, .int .i64 0]) 3 24 Try.underlying22 ji jz0 jz1 jz2 rfl (by decide) _ 0 [] rfl ⟨rfl, .inl ⟨rfl, rfl⟩⟩ ad n c (flatS (pcsF P) n) rfl HL.out HC.out HO.out (by unfold maxLen; omega) (by omega) (Nat.le_refl _) ?_; intro v' w3 hown hgr _)
    go_ret
    exact ⟨v', rfl, by simpa using hown, (Below.refl _ _).grown hgr (Nat.le_refl _) fun k e => by cases e⟩
def mkRow (t k : Nat) : List Value := flatS (pcsF (mkP t)) k
theorem mkRow_len (t k : Nat) : (mkRow t k).length = k * 3 := flatS_len (wide_pcs _) k
def LentP (w : World) (n : Nat) (xs : List Value) (e : Ending) (w' : World) : Prop :=
  ∃ g, e = .returned (.slice (some ⟨g, 0, none⟩) n (n + 12)) ∧ w.heap.size ≤ g ∧ w'.heap[g]? = some (.cells (xs ++ mkRow 1 12).toArray 35 (0, 0)) ∧ Below w.heap.size w w'
theorem row_below {w : World} {base g n c s : Nat} {e : TypeId} {xs : List Value} (h : w.ownsRow base e s (.slice (some ⟨g, 0, none⟩) n c) n xs) : g < w.heap.size := by
  rcases h.2 with ⟨h, _⟩ | ⟨g, cap, cur, h, _, hh, _⟩
  · simp at h
  · simp only [Value.slice.injEq, Option.some.injEq, Addr.mk.injEq] at h
    obtain ⟨⟨rfl, _⟩, _⟩ := h
    exact (Array.getElem?_eq_some_iff.1 hh).1
set_option maxHeartbeats 1000000 in
set_option maxRecDepth 100000 in
theorem lent9 (P : Nat → Pc) (A : Option Addr) (n c : Nat) (w : World) (hn : n ≤ 5864062014800) (ha : SArr w w.heap.size A n 3 (pcsF P)) (hA : A = none → n = 0 ∧ c = 0) :
    Calls Try.prog 9 #[.slice A n c] w (LentP w n (flatS (pcsF P) n)) := by
  obtain ⟨i0, hi, hz0, hz1, hz2⟩ := infoParts info35
  have HO : Hid (∀ u ∈ flatS (pcsF P) n, u.oneCell' = true) := Lib.hid (flatS_one fun j _ u hu => by
    simp [pcsF, Pc.cells] at hu
    rcases hu with rfl | rfl | rfl <;> rfl)
  have HO2 : Hid (∀ k, ∀ u ∈ (mkP 1 k).cells, u.oneCell' = true) := Lib.hid (fun k u hu => by
    simp [Pc.cells] at hu
    rcases hu with rfl | rfl | rfl <;> rfl)
  have HL : Hid ((flatS (pcsF P) n).length = n * 3) := Lib.hid (flatS_len (wide_pcs P) n)
  have HA := Lib.hid hA
  have HH := Lib.hid ha
  clear hA ha
  go_enter Try.func9, Try.ntmps9
  go_wp2_with (first | (at_make; refine wpList_make_own _ rfl _ _ 22 rfl w.heap.size 35 i0 (.agg #[.int .u8 0, .int .i64 0, .int .i64 0]) 3 Try.underlying22 hi hz0 hz1 _ _ _ (n + 12) rfl rfl (by omega) (by rw [hz2]; omega) (by unfold maxLen; omega) (Nat.le_refl _) ?_; intro w1 hown1 hg1; have hb1 : Below w.heap.size w w1 := (Below.refl _ w).grown hg1 (Nat.le_refl _) (by simp); have HH1 := Lib.hid (HH.out.below hb1 (Nat.le_refl _))) | (at_builtin; (refine wpList_append_fits_any _ rfl (.tmp 9) (.tmp 10) 22 rfl w.heap.size 35 i0 3 Try.underlying22 hi hz1 w.heap.size 0 (n + 12) [] rfl hown1 A n c (flatS (pcsF P) n) rfl HL.out HA.out (HH1.out.cellsAt (wide_pcs P)) HO.out (by omega) ?_); intro w2 hown2 hg2; simp only [Nat.zero_add, List.nil_append] at hown2))
  have hb2 : Below w.heap.size w w2 := hb1.grown hg2 hb1.size (fun k e => by cases e; exact Nat.le_refl _)
  have hz : w.heap.size < w2.heap.size := row_below hown2
  clear hown1 hg1 HH1 hg2 hb1
  go_loopw [3, 4] (fun v i wr => ∃ k : Nat, k ≤ 12 ∧ i = .int .i64 k ∧ v = .slice (some ⟨w.heap.size, 0, none⟩) (n + k) (n + 12) ∧
      wr.ownsRow w.heap.size 35 3 (.slice (some ⟨w.heap.size, 0, none⟩) (n + k) (n + 12)) (n + k) (flatS (pcsF P) n ++ mkRow 1 k) ∧ Below w.heap.size w wr ∧ w.heap.size < wr.heap.size) (fun _ i _ => 12 - (intOf i).toNat)
  case atStart => exact ⟨0, Nat.zero_le _, rfl, rfl, by simpa [mkRow, flatS] using hown2, hb2, hz⟩
  case round =>
    clear hown2 hb2 hz
    obtain ⟨k, hk, rfl, rfl, hown, hB, hz⟩ := hrel
    by_cases hlt : k < 12
    · have HW := Lib.hid hown
      have HBB := Lib.hid hB
      clear hown hB
      go_wp2_with fail
      refine (markP 1 k _ (by omega) (by omega)).mono ?_
      rintro e w2 ⟨rfl, hbm⟩
      have HW2 := Lib.hid ((Keeps.fresh (S := fun _ => False) hbm).row HW.out (fun _ _ h => h))
      have HB2 := Lib.hid (HBB.out.trans (hbm.mono HBB.out.size))
      clear hbm
      go_wp2_with (at_builtin; refine wpList_append_fits _ rfl (.tmp 16) (.tmp 19) 22 rfl w.heap.size 35 i0 3 Try.underlying22 hi hz1 w.heap.size (n + k) (n + 12) _ rfl (HW2.out.alloc _) ⟨w2.heap.size, 0, none⟩ 1 1 (mkP 1 k).cells rfl rfl (cells_new _ _ _) (HO2.out k) (by omega) ?_; intro w3 hown3 hg3)
      go_roundw
      case rel =>
        refine ⟨k + 1, by omega, by go_num, rfl, ?_, (HB2.out.alloc HB2.out.size _).grown hg3 (HB2.out.alloc HB2.out.size _).size (fun k e => by cases e; exact Nat.le_refl _), row_below hown3⟩
        rw [List.append_assoc] at hown3
        exact hown3
      case measure => simp [intOf]; omega
    · obtain rfl : k = 12 := by omega
      go_wp2
      go_ret
      rcases hown.2 with ⟨h, _⟩ | ⟨g, cap, cur, h, _, hh, _, _, hsz, htk⟩
      · simp at h
      · simp only [Value.slice.injEq, Option.some.injEq, Addr.mk.injEq] at h
        obtain ⟨⟨rfl, _⟩, _, rfl⟩ := h
        refine ⟨w.heap.size, rfl, Nat.le_refl _, ?_, hB⟩
        rw [hh, ← htk, List.take_of_length_le (by simp; omega)]
theorem lent_sarr {w : World} {g n : Nat} {P : Nat → Pc} (hg : w.heap[g]? = some (.cells (flatS (pcsF P) n ++ mkRow 1 12).toArray 35 (0, 0))) : SArr w w.heap.size (some ⟨g, 0, none⟩) n 3 (pcsF P) :=
  SArr.ofCells (wide_pcs P) hg fun i hi => List.getElem?_append_left (by rw [flatS_len (wide_pcs P)]; exact hi)
end Go.Proofs.Ytbaibkckigdndaa
