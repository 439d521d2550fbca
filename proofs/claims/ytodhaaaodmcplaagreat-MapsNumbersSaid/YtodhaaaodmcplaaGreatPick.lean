/- The kit's Pick. -/
import Derived.Test.YtodhaaaodmcplaaGreatArr
import Derived.Test.YtodhaaaodmcplaaGreatKm
set_option linter.all false
namespace Go.Proofs.YtodhaaaodmcplaaGreat
open Go.RowKit
theorem tmod_cases (x n : Int) (h1 : 1 ≤ n) (hx : x < 0) : (x.tmod n < 0 ∧ x.tmod n + n = x % n ∧ -n < x.tmod n) ∨ (¬ x.tmod n < 0 ∧ x.tmod n = x % n) := by
  have h := Int.tmod_eq_emod (a := x) (b := n)
  have hb := Int.emod_nonneg x (show n ≠ 0 by omega)
  have hc := Int.emod_lt_of_pos x (show 0 < n by omega)
  by_cases hd : n ∣ x
  · right
    rw [if_pos (.inr hd)] at h
    omega
  · left
    rw [if_neg (by intro h5; rcases h5 with h5 | h5; · omega
                   · exact hd h5)] at h
    have : 0 < x % n := by
      rcases Int.lt_or_eq_of_le hb with h6 | h6
      · exact h6
      · exact absurd (Int.dvd_of_emod_eq_zero h6.symm) hd
    omega
set_option maxHeartbeats 400000 in
theorem pick9 (x n : Int) (w : World) (h1 : 1 ≤ n) (h2 : n ≤ 9223372036854775807) :
    Calls Tryz.prog 25 #[.int .i64 x, .int .i64 n] w fun e w' => e = .returned (.int .i64 (x % n)) ∧ w = w' := by
  have hz : ¬ n = 0 := by omega
  by_cases hx : x < 0
  · have hc := tmod_cases x n h1 hx
    obtain ⟨r, hr⟩ : ∃ r, x.tmod n = r := ⟨_, rfl⟩
    rw [hr] at hc
    have HR := Lib.hid hr
    rcases hc with ⟨h5, h6, h7⟩ | ⟨h5, h6⟩
    · have H6 := Lib.hid h6
      clear h6
      go_enter Tryz.func25, Tryz.ntmps25
      go_wp2
      go_ret
      exact ⟨ret_int H6.out, rfl⟩
    · have H6 := Lib.hid h6
      clear h6
      go_enter Tryz.func25, Tryz.ntmps25
      go_wp2
      go_ret
      exact ⟨ret_int H6.out, rfl⟩
  · have h5 := Int.emod_nonneg x hz
    go_enter Tryz.func25, Tryz.ntmps25
    go_wp2
    go_ret
    exact ⟨rfl, rfl⟩
end Go.Proofs.YtodhaaaodmcplaaGreat
