/- The law BitioParts of layer 3 (bitio): it returns true at every input. -/
import Derived.Test.YtkkjcbakgjabdaaF
import Derived.Lib.MinMax
namespace Go.Proofs.Ytkkjcbakgjabdaa
open Go.RowKit
theorem Arr.congr {w : World} {B : Nat} {A : Option Addr} {n : Nat} {f g : Nat → Value} (h : Arr w B A n f) (hf : ∀ j, j < n → f j = g j) : Arr w B A n g := fun h0 => by
  obtain ⟨b, off, e, hl, hc⟩ := h h0
  exact ⟨b, off, e, hl, fun j hj => (hc j hj).trans (congrArg some (hf j hj))⟩
set_option maxHeartbeats 2000000 in
theorem parts3 (f g : Nat → Int) (A S : Option Addr) (n c m c2 : Nat) (W : World) (hn : n ≤ 140737488351232) (hm : m ≤ 140737488351232) (wf : ∀ j, j < n → 0 ≤ f j ∧ f j < 256)
    (ha : Arr W W.heap.size A n fun k => .int .u8 (f k)) (hA : A = none → n = 0 ∧ c = 0) (hs : Arr W W.heap.size S m fun k => .int .i64 (g k))
    (wg : ∀ j, j < m → -9223372036854775808 ≤ g j ∧ g j ≤ 9223372036854775807) :
    Calls Try.prog 3 #[.slice A n c, .slice S m c2] W fun e W' => e = .returned (.bool true) ∧ Below W.heap.size W W' := by
  have HA := Lib.hid ha
  have HN := Lib.hid hA
  have HS := Lib.hid hs
  have WG := Lib.hid wg
  obtain ⟨B, hB, hf⟩ := bytes_num f n wf
  have HB := Lib.hid hB
  have HF := Lib.hid hf
  clear ha hA hs wg wf hB hf
  by_cases hn2 : n ≤ 200
  · by_cases hm2 : m ≤ 300
    · go_enter Try.func3, Try.ntmps3
      go_wp2_with fail
      refine (awake9 W).mono ?_
      rintro e w1 ⟨rfl, hb1⟩
      have B1 := Lib.hid hb1
      clear hb1
      go_wp2_with fail
      refine (new10 w1 W.heap.size B1.out.size).mono ?_
      rintro e w2 ⟨rfl, hb2, hw2⟩
      have B2 := Lib.hid (B1.out.trans (hb2.mono B1.out.size))
      have W2 := Lib.hid hw2
      have A2 : Hid (Arr w2 w2.heap.size A n fun k => .int .u8 (byteAt B k : Nat)) := Lib.hid (((HA.out.below B2.out (Nat.le_refl _)).more B2.out.size).congr fun j hj => by rw [HF.out j hj])
      clear hb2 hw2
      go_wp2_with fail
      refine (newr11 w2 B A n c (by omega) A2.out HN.out).mono ?_
      rintro e w3 ⟨q, u, rfl, hq, hb3, hr3⟩
      have B3 := Lib.hid (B2.out.trans (hb3.mono B2.out.size))
      have W3 : Hid (Both w3 W.heap.size w1.heap.size (.slice none 0 0) 0 0 q u B n 0) := Lib.hid ⟨W2.out.keeps (Keeps.fresh hb3) (fun _ _ h => h), hr3.more B2.out.size, by simp [Value.ownBlock]⟩
      clear hq hb3 hr3 W2 B2 A2
      obtain ⟨p, hp⟩ : ∃ p, p = w1.heap.size := ⟨_, rfl⟩
      rw [← hp] at W3 ⊢
      clear hp B1
      go_wp2_with fail
      go_loopw [7] (fun i wr => ∃ (k o : Nat) (v : Value), i = .int .i64 k ∧ k ≤ o ∧ o ≤ 8 * n ∧ Both wr W.heap.size p v (B % 2 ^ o) o q u B n o ∧ Below W.heap.size W wr) (fun _ wr => 8 * n - (intOf ((wr.cell? ⟨q, 2, none⟩).getD undef)).toNat)
      case atStart => exact ⟨0, 0, _, rfl, Nat.le_refl _, Nat.zero_le _, by simpa [Nat.mod_one] using W3.out, B3.out⟩
      case round =>
        clear W3 B3
        obtain ⟨k, o, v, rfl, hko, ho, hb, hbel⟩ := hrel
        have H0 := Lib.hid hb
        have E0 := Lib.hid hbel
        clear hb hbel
        obtain ⟨r, hr⟩ : ∃ r, r = 8 * n - o := ⟨_, rfl⟩
        go_wp2_with fail
        refine (left12 wr _ q u B n o H0.out.rd).mono ?_
        rintro e _ ⟨rfl, m1, rfl⟩
        rw [← hr]
        have HR := Lib.hid hr
        have hr1 : o + r ≤ 8 * n := by omega
        clear hr
        by_cases h0 : 0 < r
        · have t1 : decide ((0 : Int) < r) = true := by simp; omega
          by_cases hm0 : 0 < m
          · obtain ⟨y, hy⟩ : ∃ y : Nat, (k : Int) % m = y := ⟨k % m, by omega⟩
            have hy1 : y < m := by have := Nat.mod_lt k hm0; omega
            have hS := (HS.out.below E0.out (Nat.le_refl _)).drewN m1
            obtain ⟨b, off, rfl, _, hc⟩ := hS hm0
            have hcy := hc y hy1
            have hgy := WG.out y hy1
            obtain ⟨x, hx⟩ : ∃ x : Nat, 1 + g y % 32 = x := ⟨(1 + g y % 32).toNat, by omega⟩
            have hx1 : 1 ≤ x := by omega
            have hx2 : x ≤ 32 := by omega
            clear hc hS
            go_wp2_with fail
            refine (pick13 (g y) 32 _ (by omega) (by omega) (by omega) (by omega)).mono ?_
            rintro e _ ⟨rfl, rfl⟩
            clear hcy hgy
            go_wp2_with fail
            refine (left12 _ _ q u B n o (H0.out.drewN m1).rd).mono ?_
            rintro e _ ⟨rfl, m2, rfl⟩
            rw [← HR.out]
            obtain ⟨d, hd⟩ : ∃ d : Nat, min (x : Int) (r : Int) = d := ⟨min x r, by omega⟩
            have hd1 : 1 ≤ d := by omega
            have hd2 : d ≤ 32 := by omega
            have hd3 : d ≤ r := by omega
            go_wp2_with fail
            refine ((H0.out.drewN (m1 + m2)).get (below_drewN E0.out _) d hd2 (by omega)).mono ?_
            rintro e w4 ⟨rfl, hb4, hh4⟩
            have B4 := Lib.hid hb4
            have H4 := Lib.hid hh4
            clear hb4 hh4
            obtain ⟨Vv, hv⟩ : ∃ Vv, Vv = B / 2 ^ o % 2 ^ d := ⟨_, rfl⟩
            rw [← hv]
            have HV := Lib.hid hv
            clear hv
            go_wp2_with fail
            refine (len16 w4 _ p v _ o H4.out.wr (by omega)).mono ?_
            rintro e _ ⟨rfl, m4, rfl⟩
            have hr2 : (8 * (n : Int) - o) = r := by have := HR.out; omega
            go_wp2_with fail
            refine ((H4.out.drewN m4).put (below_drewN B4.out _) Vv d hd2 (by rw [HV.out]; exact Nat.lt_of_lt_of_le (Nat.mod_lt _ (Nat.pow_pos (by omega))) (pow_le32 hd2)) (by omega)).mono ?_
            rintro e w5 ⟨rfl, hb5, v5, hh5⟩
            have B5 := Lib.hid hb5
            have H5 := Lib.hid hh5
            clear hb5 hh5
            go_wp2_with fail
            go_roundw
            case rel =>
              have h := H5.out
              rw [HV.out, take_bits] at h
              exact ⟨k + 1, o + d, v5, by go_num, by omega, by omega, h, B5.out⟩
            case measure =>
              rw [(rd_at H5.out.rd.blk).2.2.1, (rd_at H0.out.rd.blk).2.2.1]
              simp [intOf]; omega
          · have t2 : decide ((0 : Int) < m) = false := by simp; omega
            obtain ⟨x, hx⟩ : ∃ x : Nat, 1 + (k : Int) % 7 = x := ⟨1 + k % 7, by omega⟩
            have hx1 : 1 ≤ x := by omega
            have hx2 : x ≤ 32 := by omega
            go_wp2_with fail
            refine (left12 _ _ q u B n o (H0.out.drewN m1).rd).mono ?_
            rintro e _ ⟨rfl, m2, rfl⟩
            rw [← HR.out]
            obtain ⟨d, hd⟩ : ∃ d : Nat, min (x : Int) (r : Int) = d := ⟨min x r, by omega⟩
            have hd1 : 1 ≤ d := by omega
            have hd2 : d ≤ 32 := by omega
            have hd3 : d ≤ r := by omega
            go_wp2_with fail
            refine ((H0.out.drewN (m1 + m2)).get (below_drewN E0.out _) d hd2 (by omega)).mono ?_
            rintro e w4 ⟨rfl, hb4, hh4⟩
            have B4 := Lib.hid hb4
            have H4 := Lib.hid hh4
            clear hb4 hh4
            obtain ⟨Vv, hv⟩ : ∃ Vv, Vv = B / 2 ^ o % 2 ^ d := ⟨_, rfl⟩
            rw [← hv]
            have HV := Lib.hid hv
            clear hv
            go_wp2_with fail
            refine (len16 w4 _ p v _ o H4.out.wr (by omega)).mono ?_
            rintro e _ ⟨rfl, m4, rfl⟩
            have hr2 : (8 * (n : Int) - o) = r := by have := HR.out; omega
            go_wp2_with fail
            refine ((H4.out.drewN m4).put (below_drewN B4.out _) Vv d hd2 (by rw [HV.out]; exact Nat.lt_of_lt_of_le (Nat.mod_lt _ (Nat.pow_pos (by omega))) (pow_le32 hd2)) (by omega)).mono ?_
            rintro e w5 ⟨rfl, hb5, v5, hh5⟩
            have B5 := Lib.hid hb5
            have H5 := Lib.hid hh5
            clear hb5 hh5
            go_wp2_with fail
            go_roundw
            case rel =>
              have h := H5.out
              rw [HV.out, take_bits] at h
              exact ⟨k + 1, o + d, v5, by go_num, by omega, by omega, h, B5.out⟩
            case measure =>
              rw [(rd_at H5.out.rd.blk).2.2.1, (rd_at H0.out.rd.blk).2.2.1]
              simp [intOf]; omega
        · have t1 : decide ((0 : Int) < r) = false := by simp; omega
          obtain rfl : o = 8 * n := by have := HR.out; omega
          go_wp2_with fail
          refine (len16 _ _ p v _ (8 * n) (H0.out.drewN m1).wr (by omega)).mono ?_
          rintro e _ ⟨rfl, m2, rfl⟩
          have t2 : (((8 * n : Nat) : Int) == 8 * (n : Int)) = true := by simp
          go_wp2_with fail
          refine (bytes18 _ _ p v _ (8 * n) (H0.out.drewN (m1 + m2)).wr (by omega)).mono ?_
          rintro e w4 ⟨v4, rfl, hb4, hrow4⟩
          have e1 : (8 * n + 7) / 8 = n := by omega
          rw [e1, Nat.mod_eq_of_lt HB.out] at hrow4
          have B4 := Lib.hid ((below_drewN E0.out (m1 + m2)).trans (hb4.mono (below_drewN E0.out (m1 + m2)).size))
          obtain ⟨A4, cap4, rfl, ha4, _, _, _⟩ := row_arr hrow4
          have A4' := Lib.hid ha4
          clear hb4 hrow4 ha4 e1
          go_wp2_with fail
          refine (same17 (fun k => (byteAt B k : Nat)) A4 A n cap4 c _ _ w4 (by omega) A4'.out (((HA.out.below B4.out (Nat.le_refl _))).congr fun j hj => by rw [HF.out j hj])).mono ?_
          rintro e _ ⟨rfl, m5, rfl⟩
          go_wp2_with fail
          go_ret
          exact ⟨rfl, below_drewN B4.out _⟩
    · have t1 : decide ((300 : Int) < m) = true := by simp; omega
      go_enter Try.func3, Try.ntmps3
      go_wp2_with fail
      refine (awake9 W).mono ?_
      rintro e w1 ⟨rfl, hb1⟩
      have B1 := Lib.hid hb1
      clear hb1
      go_wp2_with fail
      go_ret
      exact ⟨rfl, B1.out⟩
  · have t1 : decide ((200 : Int) < n) = true := by simp; omega
    go_enter Try.func3, Try.ntmps3
    go_wp2_with fail
    refine (awake9 W).mono ?_
    rintro e w1 ⟨rfl, hb1⟩
    have B1 := Lib.hid hb1
    clear hb1
    go_wp2_with fail
    go_ret
    exact ⟨rfl, B1.out⟩
end Go.Proofs.Ytkkjcbakgjabdaa
