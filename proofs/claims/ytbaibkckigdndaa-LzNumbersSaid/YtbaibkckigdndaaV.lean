/- The law LzRuns of layer 5 (lz): it returns true at every input. -/
import Derived.Test.YtbaibkckigdndaaL
import Derived.Test.YtbaibkckigdndaaB
namespace Go.Proofs.Ytbaibkckigdndaa
open Go.RowKit
theorem tmod_cases (x n : Int) (h1 : 1 ≤ n) (hx : x < 0) : (x.tmod n < 0 ∧ x.tmod n + n = x % n ∧ -n < x.tmod n) ∨ (¬ x.tmod n < 0 ∧ x.tmod n = x % n) := by
  have h := Int.tmod_eq_emod (a := x) (b := n)
  have hb := Int.emod_nonneg x (show n ≠ 0 by omega)
  have hc := Int.emod_lt_of_pos x (show 0 < n by omega)
  by_cases hd : n ∣ x
  · right
    rw [if_pos (.inr hd)] at h
    omega
  · left
    rw [if_neg (by intro h5; rcases h5 with h5 | h5; · omega
                   · exact hd h5)] at h
    have : 0 < x % n := by
      rcases Int.lt_or_eq_of_le hb with h6 | h6
      · exact h6
      · exact absurd (Int.dvd_of_emod_eq_zero h6.symm) hd
    omega
set_option maxHeartbeats 400000 in
theorem pick23 (x n : Int) (w : World) (h1 : 1 ≤ n) (h2 : n ≤ 9223372036854775807) :
    Calls Try.prog 23 #[.int .i64 x, .int .i64 n] w fun e w' => e = .returned (.int .i64 (x % n)) ∧ w = w' := by
  have hz : ¬ n = 0 := by omega
  by_cases hx : x < 0
  · have hc := tmod_cases x n h1 hx
    obtain ⟨r, hr⟩ : ∃ r, x.tmod n = r := ⟨_, rfl⟩
    rw [hr] at hc
    have HR := Lib.hid hr
    rcases hc with ⟨h5, h6, h7⟩ | ⟨h5, h6⟩
    · have H6 := Lib.hid h6
      clear h6
      go_enter Try.func23, Try.ntmps23
      go_wp2
      go_ret
      exact ⟨ret_int H6.out, rfl⟩
    · have H6 := Lib.hid h6
      clear h6
      go_enter Try.func23, Try.ntmps23
      go_wp2
      go_ret
      exact ⟨ret_int H6.out, rfl⟩
  · have h5 := Int.emod_nonneg x hz
    go_enter Try.func23, Try.ntmps23
    go_wp2
    go_ret
    exact ⟨rfl, rfl⟩
theorem Arr.congr {w : World} {B : Nat} {A : Option Addr} {n : Nat} {f g : Nat → Value} (h : Arr w B A n f) (e : ∀ j, j < n → f j = g j) : Arr w B A n g := fun hn => by
  obtain ⟨b, off, e1, hlt, hc⟩ := h hn
  exact ⟨b, off, e1, hlt, fun j hj => e j hj ▸ hc j hj⟩
/-- Too many bytes are no pieces. -/
theorem parse18n (A : Option Addr) (n c : Nat) (w : World) (hn : 65536 < n) (hm : n ≤ 140737488355328) : Calls Try.prog 18 #[.slice A n c] w fun e w' => e = .returned (.slice none 0 0) ∧ Below w.heap.size w w' := by
  have t : decide ((65536 : Int) < n) = true := by simp; omega
  go_enter Try.func18, Try.ntmps18
  go_wp2_with fail
  go_ret
  exact ⟨rfl, (Below.refl _ _).alloc (Nat.le_refl _) _⟩
def fillL (x : Int) (m k : Nat) : List Value := (List.range m).map fun j => .int .u8 (if j < k then x else 0)
theorem fill_0 (x : Int) (m : Nat) : (madeCells (Value.int .u8 0).cells (m * 1)).toList = fillL x m 0 := by
  rw [Nat.mul_one]
  refine (toList_madeCells_one _ _).trans ?_
  apply List.ext_getElem?
  intro i
  rw [fillL, List.getElem?_map, List.getElem?_replicate]
  by_cases h : i < m
  · rw [List.getElem?_range h, if_pos h]; rfl
  · rw [List.getElem?_eq_none (by simpa using h), if_neg h]; rfl
theorem fill_s (x : Int) {m k : Nat} (hk : k < m) : (fillL x m k).set k (.int .u8 x) = fillL x m (k + 1) := by
  apply List.ext_getElem?
  intro i
  rw [List.getElem?_set, fillL, fillL, List.getElem?_map, List.getElem?_map]
  by_cases e : k = i
  · subst e
    simp [hk]
  · rw [if_neg e]
    by_cases h : i < m
    · rw [List.getElem?_range h]
      have : (i < k + 1) = (i < k) := by rw [eq_iff_iff]; omega
      simp only [Option.map_some, this]
    · rw [List.getElem?_eq_none (by simpa using h)]; rfl
set_option maxRecDepth 100000 in
set_option maxHeartbeats 4000000 in
theorem runs6 (x n : Int) (W : World) (hx : 0 ≤ x ∧ x < 256) : Calls Try.prog 6 #[.int .u8 x, .int .i64 n] W fun e W' => e = .returned (.bool true) ∧ Below W.heap.size W W' := by
  obtain ⟨i0, hi, hz0, hz1, hz2⟩ := infoParts info5
  go_enter Try.func6, Try.ntmps6
  go_wp2_with fail
  refine (awake8 W).mono ?_
  rintro e w1 ⟨rfl, hb⟩
  have B1 := Lib.hid hb
  clear hb
  go_wp2_with fail
  refine (pick23 n 65540 w1 (by omega) (by omega)).mono ?_
  rintro e _ ⟨rfl, rfl⟩
  obtain ⟨m, hm⟩ : ∃ m : Nat, n % 65540 = m := ⟨(n % 65540).toNat, by omega⟩
  rw [hm]
  have hm2 : m < 65540 := by omega
  clear hm
  have HX := Lib.hid hx
  clear hx
  go_wp2_with (at_make; refine wpList_make_full _ rfl _ _ 25 rfl W.heap.size 5 i0 (.int .u8 0) 1 Try.underlying25 hi hz0 hz1 _ _ _ _ m rfl rfl (by rfl) (by rfl) (by rw [hz2]; omega) (by unfold maxLen; omega) B1.out.size ?_; intro w2 hown hg)
  have B2 := Lib.hid (B1.out.grown hg B1.out.size (fun k e => by cases e))
  rw [fill_0 x m] at hown
  generalize w1.heap.size = g at hown ⊢
  have R2 := Lib.hid hown
  clear hown hg B1
  go_loopw [6] (fun i wr => ∃ k : Nat, k ≤ m ∧ i = .int .i64 k ∧ wr.ownsRow W.heap.size 5 1 (.slice (some ⟨g, 0, none⟩) m m) m (fillL x m k) ∧ Below W.heap.size W wr) (fun i _ => m - (intOf i).toNat)
  case atStart => exact ⟨0, Nat.zero_le _, rfl, R2.out, B2.out⟩
  case round =>
    clear R2 B2
    obtain ⟨k, hk, rfl, hrow, hbw⟩ := hrel
    have HR := Lib.hid hrow
    have HB := Lib.hid hbw
    by_cases hlt : k < m
    · have hfz : wr.frozen? ⟨g, k, none⟩ = false := hrow.frozenAt k
      obtain ⟨u, hu⟩ : ∃ u, wr.cell? ⟨g, k, none⟩ = some u := by
        refine ⟨_, (hrow.cellAt k (by omega)).trans (?_ : _ = some (.int .u8 (if k < k then x else 0)))⟩
        rw [fillL, List.getElem?_map, List.getElem?_range hlt]; rfl
      clear hrow hbw
      go_wp2_with fail
      go_roundw
      case rel =>
        have hs := HR.out.stored k (.int .u8 x)
        rw [fill_s x hlt] at hs
        exact ⟨k + 1, by omega, by go_num, hs.1, HB.out.setCell (HR.out.lt g rfl).1 _⟩
      case measure => simp [intOf]; omega
    · obtain rfl : k = m := by omega
      have HA : Hid (Arr wr wr.heap.size (some ⟨g, 0, none⟩) k fun _ => .int .u8 x) := Lib.hid (by
        obtain ⟨A', c', e, ha, -⟩ := row_arr HR.out
        injection e with e1 e2 e3
        rw [e1]
        exact ha.congr fun j hj => by rw [if_pos hj])
      clear hrow hbw
      by_cases hbig : 65536 < k
      · have t : decide ((65536 : Int) < k) = true := by simp; omega
        go_wp2_with fail
        refine (parse18n _ k k wr hbig (by omega)).mono ?_
        rintro e w3 ⟨rfl, hb⟩
        have B3 := Lib.hid (HB.out.trans (hb.mono HB.out.size))
        clear hb
        go_wp2_with fail
        go_ret
        exact ⟨rfl, B3.out⟩
      · have t : decide ((65536 : Int) < k) = false := by simp; omega
        go_wp2_with fail
        refine (parse18 (fun _ => x) _ k k wr (by omega) (Nat.le_refl _) HA.out fun _ _ => HX.out).mono ?_
        rintro e w3 ⟨K, v, hK, rfl, h3, hb⟩
        obtain ⟨A3, c3, rfl, ha3, -⟩ := srow_arr (wide_pcs _) h3
        have HA3 := Lib.hid ha3
        have B3 := Lib.hid (HB.out.trans (hb.mono HB.out.size))
        have hkb := Lib.hid hb
        have HE := Lib.hid (expAll (by omega) hK)
        have hfew := few hK
        have hKn := hK.end_.2
        have s1 : decide ((K : Int) ≤ (k : Int) / 258 + 4) = true := by simp; omega
        clear h3 hb ha3 hK
        go_wp2_with fail
        refine (expand10 _ A3 K c3 w3 (by omega) HA3.out).mono ?_
        rintro e w4 (⟨h1, -⟩ | ⟨out, v, h1, rfl, h2, h3⟩)
        · rw [HE.out] at h1; cases h1
        rw [HE.out] at h1
        injection h1 with h1
        subst h1
        obtain ⟨A4, c4, rfl⟩ := row_slice h2
        have hl : (bytesL (fun _ => x) k).length = k := bytesL_len _ _
        rw [hl] at h2 ⊢
        have HA4 : Hid (Arr w4 w4.heap.size A4 k fun _ => .int .u8 x) := Lib.hid ((row_bytes h2 hl).congr fun j hj => by rw [bytesL_at hj])
        have HA5 : Hid (Arr w4 w4.heap.size (some ⟨g, 0, none⟩) k fun _ => .int .u8 x) := Lib.hid (((HA.out.below hkb.out (Nat.le_refl _)).below h3 hkb.out.size).more (Nat.le_trans hkb.out.size h3.size))
        have B4 := Lib.hid (B3.out.trans (h3.mono B3.out.size))
        clear h2 h3 hl
        go_wp2_with fail
        refine (same12 (fun _ => x) _ A4 k k c4 _ _ w4 (by omega) HA5.out HA4.out).mono ?_
        rintro e w5 ⟨rfl, q, rfl⟩
        go_wp2_with fail
        go_ret
        exact ⟨rfl, below_drewN B4.out q⟩
end Go.Proofs.Ytbaibkckigdndaa
