/- The law LzBack of layer 5 (lz): it returns true at every input. -/
import Derived.Test.YtbaibkckigdndaaL
import Derived.Test.YtbaibkckigdndaaS
namespace Go.Proofs.Ytbaibkckigdndaa
open Go.RowKit
theorem arrCongr {w : World} {B : Nat} {A : Option Addr} {n : Nat} {f g : Nat → Value} (h : Arr w B A n f) (e : ∀ j, j < n → f j = g j) : Arr w B A n g := fun hn => by
  obtain ⟨b, off, e1, hlt, hc⟩ := h hn
  exact ⟨b, off, e1, hlt, fun j hj => e j hj ▸ hc j hj⟩
set_option maxRecDepth 100000 in
set_option maxHeartbeats 8000000 in
theorem back5 (f : Nat → Int) (A : Option Addr) (n c : Nat) (W : World) (hnm : n ≤ 140737488355328) (hnc : n ≤ c) (hA : A = none → n = 0 ∧ c = 0) (ha : Arr W W.heap.size A n fun j => .int .u8 (f j)) (hf : ∀ i, i < n → 0 ≤ f i ∧ f i < 256) :
    Calls Try.prog 5 #[.slice A n c] W fun e W' => e = .returned (.bool true) ∧ Below W.heap.size W W' := by
  have HA := Lib.hid ha
  have HF := Lib.hid hf
  have HN := Lib.hid hA
  clear ha hf hA
  go_enter Try.func5, Try.ntmps5
  go_wp2_with fail
  refine (awake8 W).mono ?_
  rintro e w1 ⟨rfl, hb⟩
  have B1 := Lib.hid hb
  clear hb
  by_cases hbig : 12000 < n
  · have t1 : decide ((12000 : Int) < n) = true := by simp; omega
    go_wp2_with fail
    go_ret
    exact ⟨rfl, B1.out⟩
  have t1 : decide ((12000 : Int) < n) = false := by simp; omega
  go_wp2_with fail
  refine (lentB f A n c w1 (by omega) ((HA.out.below B1.out (Nat.le_refl _)).more B1.out.size) HN.out).mono ?_
  rintro e w2 ⟨g, rfl, hg, hgh, hb⟩
  have HG := Lib.hid hgh
  have B2 := Lib.hid (B1.out.trans (hb.mono B1.out.size))
  have hgl := heap_lt hgh
  clear hgh hb
  go_wp2_with fail
  refine (parse18 f _ n (n + 12) w2 (by omega) (by omega) (lent_arr HG.out) HF.out).mono ?_
  rintro e w3 ⟨K, v, hK, rfl, r3, hb3⟩
  obtain ⟨A3, c3, rfl, ha3, -⟩ := srow_arr (wide_pcs _) r3
  have R3 := Lib.hid r3
  have HA3 := Lib.hid ha3
  have HB3 := Lib.hid hb3
  have HK := Lib.hid hK
  have B3 := Lib.hid (B2.out.trans (hb3.mono B2.out.size))
  have HG3 := Lib.hid ((hb3.block g hgl).trans HG.out)
  have hgl3 := heap_lt HG3.out
  have hKn := hK.end_.2
  clear r3 ha3 hb3 hK
  go_wp2_with fail
  refine (parse18 f _ n (n + 12) w3 (by omega) (by omega) (lent_arr HG3.out) HF.out).mono ?_
  rintro e w4 ⟨K', v, hK, rfl, r4, hb4⟩
  obtain rfl : K' = K := hK.uniq HK.out
  obtain ⟨A4, c4, rfl, ha4, -⟩ := srow_arr (wide_pcs _) r4
  have R4 := Lib.hid r4
  have HA4 := Lib.hid ha4
  have HB4 := Lib.hid hb4
  have R34 := Lib.hid ((Keeps.fresh (S := fun _ => False) hb4).row R3.out (fun _ _ h => h))
  have HA34 := Lib.hid ((HA3.out.below hb4 (Nat.le_refl _)).more hb4.size)
  have B4 := Lib.hid (B3.out.trans (hb4.mono B3.out.size))
  have HG4 := Lib.hid ((hb4.block g hgl3).trans HG3.out)
  have DAB : Hid (∀ x, (Value.slice A3 K' c3).ownBlock = some x → (Value.slice A4 K' c4).ownBlock ≠ some x) := Lib.hid fun x h1 h2 => by
    have q1 := (R3.out.lt x h1).2
    have q2 := (r4.lt x h2).1
    omega
  clear r4 ha4 hb4 hK
  have HAW := Lib.hid (HA.out.below B4.out (Nat.le_refl _))
  go_wp2_with fail
  refine (keptB f A g n c W.heap.size w4 (by omega) HAW.out HG4.out).mono ?_
  rintro e w5 ⟨rfl, q5, rfl⟩
  go_wp2_with fail
  refine (same21 (pcF f n) A3 A4 K' c3 c4 w4.heap.size w4.heap.size (w4.drewN q5) (by omega) HA34.out HA4.out).mono ?_
  rintro e w6 ⟨rfl, q6, rfl⟩
  have s1 : decide (n < K') = false := by simp; omega
  have s2 : decide ((n : Int) < K') = false := by simp; omega
  go_wp2_with fail
  clear s1 s2
  go_loopw [6, 7] (fun a i wr => ∃ k : Nat, k ≤ K' ∧ a = .int .i64 (atF f n k : Nat) ∧ i = .int .i64 k ∧ ∃ m, wr = w4.drewN m) (fun _ i _ => K' - (intOf i).toNat)
  case atStart => exact ⟨0, Nat.zero_le _, rfl, rfl, _, rfl⟩
  case round =>
    obtain ⟨k, hk, rfl, rfl, m, rfl⟩ := hrel
    by_cases hlt : k < K'
    · have hat := HK.out.lt k hlt
      have hfit := (bestF_fits f n (atF f n k)).kind
      obtain ⟨s1, s2, s3⟩ := step_bd hat (b := f)
      have hS : stepF f n (atF f n k) = max (bestF f n (atF f n k)).len.toNat 1 := rfl
      obtain ⟨b, off, rfl, hb, hc⟩ := HA34.out (by omega)
      obtain ⟨c0, c1, c2⟩ := sarr_at hc hlt
      obtain ⟨ba, offa, rfl, hba, hca⟩ := HAW.out (by omega)
      obtain ⟨a, haa⟩ : ∃ a, a = atF f n k := ⟨_, rfl⟩
      have hp : pcF f n k = bestF f n a := by rw [haa]; rfl
      rw [hp] at c0 c1 c2
      have hn1 : atF f n (k + 1) = a + stepF f n a := by rw [haa]; rfl
      rw [← haa] at hat hfit s1 s2 s3 hS ⊢
      obtain ⟨S, hSS⟩ : ∃ S, S = stepF f n a := ⟨_, rfl⟩
      rw [← hSS] at s1 s2 s3 hS hn1
      have HN1 := Lib.hid hn1
      have HCA := Lib.hid hca
      have d0 := hca a hat
      clear hc hca haa hp hSS hn1
      rcases hfit with h | ⟨h1, h2, h3, h4, h5, h6, h7, h8⟩
      · rw [h] at c0 c1 c2 hS
        have e1 : S = 1 := hS
        subst e1
        obtain ⟨x, hx⟩ : ∃ x, x = f a := ⟨_, rfl⟩
        have c0 : w4.cell? ⟨b, off + k * 3, none⟩ = some (.int .u8 x) := by rw [hx]; exact c0
        have c1 : w4.cell? ⟨b, off + k * 3 + 1, none⟩ = some (.int .i64 0) := c1
        have c2 : w4.cell? ⟨b, off + k * 3 + 2, none⟩ = some (.int .i64 0) := c2
        have d0 : w4.cell? ⟨ba, offa + a, none⟩ = some (.int .u8 x) := by rw [hx]; exact d0
        have t2 : decide ((n : Int) < a + 1) = false := by simp; omega
        have t3 : max (0 : Int) 1 = 1 := rfl
        clear h hS hx
        go_wp2_with fail
        go_quiet (fail)
        go_wp2_with fail
        refine wp_loop_rounds 1 ?_
        rw [rounds_succ]
        go_wp2_with fail
        go_roundw
        case rel => exact ⟨k + 1, by omega, by rw [HN1.out]; go_num, by go_num, _, rfl⟩
        case measure => simp [intOf]; omega
      · obtain ⟨ln, hln⟩ : ∃ ln : Nat, (bestF f n a).len = ln := ⟨(bestF f n a).len.toNat, by omega⟩
        obtain ⟨d, hd⟩ : ∃ d : Nat, (bestF f n a).dist = d := ⟨(bestF f n a).dist.toNat, by omega⟩
        rw [h1] at c0
        rw [hln] at c1
        rw [hd] at c2
        rw [hln] at hS h2 h3 h7 h8
        rw [hd] at h4 h5 h6 h8
        have hS2 : S = ln := by rw [hS]; omega
        subst hS2
        have H8 : Hid (∀ t : Nat, t < S → f (a + t) = f (a + t - d)) := Lib.hid fun t ht => h8 t (by omega)
        have t2 : decide ((n : Int) < a + S) = false := by simp; omega
        have t3 : max (S : Int) 1 = S := by omega
        have t4 : ((S : Int) == 0) = false := by simp; omega
        have t5 : decide ((S : Int) < 3) = false := by simp; omega
        have t6 : decide ((258 : Int) < S) = false := by simp; omega
        have t7 : decide ((d : Int) < 1) = false := by simp; omega
        have t8 : decide (min (a : Int) 32768 < d) = false := by simp; omega
        clear hS h1 h8 hln hd d0
        go_wp2_with fail
        go_ways
        go_loopw [9] (fun y wr => ∃ j : Nat, j ≤ S ∧ y = .int .i64 j ∧ ∃ m, wr = w4.drewN m) (fun y _ => S - (intOf y).toNat)
        case atStart => exact ⟨0, Nat.zero_le _, rfl, m, rfl⟩
        case round =>
          obtain ⟨j, hj, rfl, m2, rfl⟩ := hrel
          by_cases hjs : j < S
          · have e1 := HCA.out (a + j) (by omega)
            obtain ⟨z, hz⟩ : ∃ z : Nat, (a : Int) + j - d = z := ⟨a + j - d, by omega⟩
            have e2 := HCA.out z (by omega)
            rw [show z = a + j - d by omega, ← H8.out j hjs, show a + j - d = z by omega] at e2
            obtain ⟨x, hx⟩ : ∃ x, x = f (a + j) := ⟨_, rfl⟩
            have e1 : w4.cell? ⟨ba, offa + (a + j), none⟩ = some (.int .u8 x) := by rw [hx]; exact e1
            have e2 : w4.cell? ⟨ba, offa + z, none⟩ = some (.int .u8 x) := by rw [hx]; exact e2
            have u1 : decide ((j : Int) < S) = true := by simp; omega
            have z0 : z < n := by omega
            clear hx
            go_wp2_with fail
            go_quiet (fail)
            go_wp2_with fail
            go_roundw
            case rel => exact ⟨j + 1, by omega, by go_num, _, rfl⟩
            case measure => simp [intOf]; omega
          · obtain rfl : j = S := by omega
            have u1 : decide ((j : Int) < j) = false := by simp
            go_wp2_with fail
            go_roundw
            case rel => exact ⟨k + 1, by omega, by rw [HN1.out]; go_num, by go_num, _, rfl⟩
            case measure => simp [intOf]; omega
    · obtain rfl : k = K' := by omega
      have hend := HK.out.end_.1
      rw [hend]
      have HX := Lib.hid (expAll (by omega) HK.out)
      clear hend
      go_wp2_with fail
      refine (expand10 (pcF f n) A3 k c3 (w4.drewN m) (by omega) HA34.out).mono ?_
      rintro e w5 (⟨h1, -⟩ | ⟨out, v, h1, rfl, h2, h3⟩)
      · rw [HX.out] at h1; cases h1
      rw [HX.out] at h1
      injection h1 with h1
      subst h1
      obtain ⟨A5, c5, rfl⟩ := row_slice h2
      have hl : (bytesL f n).length = n := bytesL_len _ _
      rw [hl] at h2 ⊢
      have HA5 : Hid (Arr w5 w5.heap.size A5 n fun j => .int .u8 (f j)) := Lib.hid (arrCongr (row_bytes h2 hl) fun j hj => by rw [bytesL_at hj])
      have hb5 : Below w4.heap.size w4 w5 := (below_drewN (Below.refl _ w4) m).trans h3
      have B5 := Lib.hid (B4.out.trans (hb5.mono B4.out.size))
      have R35 := Lib.hid ((Keeps.fresh (S := fun _ => False) hb5).row R34.out (fun _ _ h => h))
      have R45 := Lib.hid ((Keeps.fresh (S := fun _ => False) hb5).row R4.out (fun _ _ h => h))
      have HAW5 := Lib.hid (HAW.out.below hb5 B4.out.size)
      clear h2 h3 hl hb5
      have u1 : ((n : Int) == n) = true := by simp
      go_wp2_with fail
      refine (same12 f A A5 n c c5 _ _ w5 (by omega) HAW5.out HA5.out).mono ?_
      rintro e w6 ⟨rfl, q, rfl⟩
      go_wp2_with fail
      have HB23 := HB3.out.size
      refine (apartP2 (w5.drewN q) W.heap.size A3 A4 k k c3 c4 (pcF f n) (pcF f n) (row_more R35.out B2.out.size) (row_more R45.out (Nat.le_trans B2.out.size HB23)) (by omega) (by omega) DAB.out B5.out.size).mono ?_
      rintro e w7 ⟨rfl, hk7⟩
      have B7 := Lib.hid ((below_drewN B5.out q).trans (hk7.below (fun x hx => hx.elim (fun h => Nat.le_trans B2.out.size (R35.out.lt x h).1) fun h => Nat.le_trans (Nat.le_trans B2.out.size HB23) (R45.out.lt x h).1) B5.out.size))
      clear hk7
      go_wp2_with fail
      go_ret
      exact ⟨rfl, B7.out⟩
end Go.Proofs.Ytbaibkckigdndaa
