/- lz.Parse's function 'length': how long what stands at one place stands at another one. -/
import Derived.Test.YtbaibkckigdndaaKm
import Derived.Test.YtbaibkckigdndaaA
namespace Go.Proofs.Ytbaibkckigdndaa
open Go.RowKit
set_option maxHeartbeats 1000000 in
theorem len31 (f : Nat → Int) (A : Option Addr) (n c B bb i j : Nat) (w : World) (hn : n ≤ 65536) (ha : Arr w B A n fun j => .int .u8 (f j)) (hb : w.cell? ⟨bb, 0, none⟩ = some (.slice A n c)) (hij : i < j) (hj : j < n) :
    Calls Try.prog 31 #[.int .i64 i, .int .i64 j, .pointer (some ⟨bb, 0, none⟩)] w fun e w' => e = .returned (.int .i64 (lenF f n i j : Nat)) ∧ ∃ m, w' = w.drewN m := by
  obtain ⟨b, off, rfl, -, hc⟩ := ha (by omega)
  have HC := Lib.hid hc
  have HB := Lib.hid hb
  obtain ⟨L, hL⟩ : ∃ L, L = lenF f n i j := ⟨_, rfl⟩
  rw [← hL]
  have HL := Lib.hid hL
  clear hc ha hL hb
  go_enter Try.func31, Try.ntmps31
  go_wp2_with fail
  go_loopw [6] (fun x wr => ∃ k : Nat, k ≤ 258 ∧ x = .int .i64 k ∧ lenG f n i j (258 - k) k = L ∧ ∃ m, wr = w.drewN m) (fun x _ => 258 - (intOf x).toNat)
  case atStart => exact ⟨0, by omega, rfl, HL.out.symm, 0, rfl⟩
  case round =>
    obtain ⟨k, hk, rfl, hg, m, rfl⟩ := hrel
    have HB2 := HB.out
    by_cases h1 : k < 258
    · obtain ⟨r, hr⟩ : ∃ r, 258 - k = r + 1 := ⟨257 - k, by omega⟩
      rw [hr, lenG] at hg
      have HR : 258 - (k + 1) = r := by omega
      by_cases h2 : j + k < n
      · have c1 := HC.out (i + k) (by omega)
        have c2 := HC.out (j + k) h2
        have t1 : decide ((k : Int) < 258) = true := by simp; omega
        have t2 : decide ((j : Int) + k < n) = true := by simp; omega
        obtain ⟨u, hu⟩ : ∃ u, u = f (i + k) := ⟨_, rfl⟩
        obtain ⟨v, hv⟩ : ∃ v, v = f (j + k) := ⟨_, rfl⟩
        rw [← hu] at c1 hg
        rw [← hv] at c2 hg
        clear hu hv
        by_cases h3 : u = v
        · rw [if_pos ⟨h2, h3⟩] at hg
          subst h3
          have HG := Lib.hid hg
          have HR2 := Lib.hid HR
          clear hg HR hr
          go_wp2_with fail
          go_quiet (fail)
          go_wp2_with fail
          go_roundw
          case rel => exact ⟨k + 1, by omega, by go_num, by rw [HR2.out]; exact HG.out, _, rfl⟩
          case measure => simp [intOf]; omega
        · rw [if_neg (fun h => h3 h.2)] at hg
          have HG := Lib.hid hg
          have t3 : (u == v) = false := by simpa using h3
          clear hg HR hr h3
          go_wp2_with fail
          go_quiet (fail)
          go_wp2_with fail
          go_ret
          exact ⟨ret_int (by rw [HG.out]), _, World.drewN_drewN _ _ _⟩
      · rw [if_neg (fun h => h2 h.1)] at hg
        have HG := Lib.hid hg
        have t1 : decide ((k : Int) < 258) = true := by simp; omega
        have t2 : decide ((j : Int) + k < n) = false := by simp; omega
        clear hg HR hr
        go_wp2_with fail
        go_quiet (fail)
        go_wp2_with fail
        go_ret
        exact ⟨ret_int (by rw [HG.out]), _, World.drewN_drewN _ _ _⟩
    · obtain rfl : k = 258 := by omega
      have HG := Lib.hid hg
      clear hg
      go_wp2_with fail
      go_quiet (fail)
      go_wp2_with fail
      go_ret
      exact ⟨ret_int (by rw [← HG.out]; rfl), _, World.drewN_drewN _ _ _⟩
end Go.Proofs.Ytbaibkckigdndaa
