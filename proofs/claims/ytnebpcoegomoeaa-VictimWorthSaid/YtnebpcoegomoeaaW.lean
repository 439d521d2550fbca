/- Part of the proof of the statements of layer 29 (victim): what each function of the layer, of the reference and of the laws computes, at every input; and that the laws return true. No condition. -/
import Derived.Test.YtnebpcoegomoeaaK
namespace Go.Proofs.Ytnebpcoegomoeaa
open Go.RowKit Go.Shelf
theorem pick9 (f : Nat → Int) (op : Int) (A : Option Addr) (n c : Nat) (w : World) (hn : n ≤ 9223372036854775807) (ha : Arr w w.heap.size A n fun j => .int .i64 (f j)) :
    Calls Try.prog 9 #[.slice A n c, .int .i64 op] w fun e w' => e = .returned (.int .i64 (pk f op n)) ∧ Below w.heap.size w w' :=
  callsIn_wide.1 (pick_in Fence.wide 3 trivial trivial trivial rfl (Nat.le_refl _) A n c f op hn w ha)
def worth (u s : Int) : Int := if u < 1 ∨ u > s then 0 else s - u
set_option maxHeartbeats 400000 in
theorem worth12 (u s : Int) (w : World) (hb : s ≤ 9223372036854775807) :
    Calls Try.prog 12 #[.int .i64 u, .int .i64 s] w fun e w' => e = .returned (.int .i64 (worth u s)) ∧ w = w' := by
  by_cases h1 : u < 1
  · go_enter Try.func12, Try.ntmps12
    go_wp2
    go_ret
    exact ⟨by simp [worth, h1], rfl⟩
  · by_cases h2 : s < u
    · go_enter Try.func12, Try.ntmps12
      go_wp2
      go_ret
      exact ⟨by simp [worth, h2], rfl⟩
    · go_enter Try.func12, Try.ntmps12
      go_wp2
      go_ret
      exact ⟨by simp [worth]; omega, rfl⟩
set_option maxHeartbeats 400000 in
theorem worth13 (u s : Int) (w : World) (hb : s ≤ 9223372036854775807) :
    Calls Try.prog 13 #[.int .i64 u, .int .i64 s] w fun e w' => e = .returned (.int .i64 (worth u s)) ∧ w = w' := by
  by_cases h1 : u < 1
  · go_enter Try.func13, Try.ntmps13
    go_wp2
    go_ret
    exact ⟨by simp [worth, h1], rfl⟩
  · by_cases h2 : s < u
    · go_enter Try.func13, Try.ntmps13
      go_wp2
      go_ret
      exact ⟨by simp [worth, h2], rfl⟩
    · go_enter Try.func13, Try.ntmps13
      go_wp2
      go_ret
      exact ⟨by simp [worth]; omega, rfl⟩
def exF (j : Nat) : Int := [0, 5, 3, 3].getD j 0
theorem exCall (op r : Int) (g : Nat) (W : World) (h : W.heap[g]? = some (.cells #[.int .i64 0, .int .i64 5, .int .i64 3, .int .i64 3] 3 (0, 0))) (hr : pk exF op 4 = r) :
    Calls Try.prog 9 #[.slice (some ⟨g, 0, none⟩) 4 4, .int .i64 op] W fun e w' => e = .returned (.int .i64 r) ∧ Below W.heap.size W w' := by
  rw [← hr]
  exact pick9 exF op _ 4 4 W (by omega) (Arr.ofBlock 4 _ h (fun j hj => by
    match j, hj with
    | 0, _ => rfl
    | 1, _ => rfl
    | 2, _ => rfl
    | 3, _ => rfl))
theorem zeroCall (g : Nat) (W : World) (h : W.heap[g]? = some (.cells #[.int .i64 0, .int .i64 0] 3 (0, 0))) :
    Calls Try.prog 9 #[.slice (some ⟨g, 0, none⟩) 2 2, .int .i64 0] W fun e w' => e = .returned (.int .i64 (-1)) ∧ Below W.heap.size W w' := by
  have := pick9 (fun _ => 0) 0 (some ⟨g, 0, none⟩) 2 2 W (by omega) (Arr.ofBlock 2 _ h (fun j hj => by
    match j, hj with
    | 0, _ => rfl
    | 1, _ => rfl))
  exact this
theorem worthCall (u s r : Int) (w : World) (hb : s ≤ 9223372036854775807) (hr : worth u s = r) : Calls Try.prog 12 #[.int .i64 u, .int .i64 s] w fun e w' => e = .returned (.int .i64 r) ∧ w = w' := hr ▸ worth12 u s w hb
set_option maxHeartbeats 1000000 in
/-- The chapter's examples. -/
theorem awake7 (w : World) : Calls Try.prog 7 #[] w fun e w' => e = .returned (.bool true) ∧ Below w.heap.size w w' := by
  go_enter Try.func7, Try.ntmps7
  go_wp2_with fail
  obtain ⟨W1, hW1⟩ : ∃ W1, w.alloc (.cells #[.int .i64 0, .int .i64 5, .int .i64 3, .int .i64 3] 3) = W1 := ⟨_, rfl⟩
  have hb1 : Below w.heap.size w W1 := hW1 ▸ (Below.refl _ w).alloc (Nat.le_refl _) _
  have hg1 : W1.heap[w.heap.size]? = some (.cells #[.int .i64 0, .int .i64 5, .int .i64 3, .int .i64 3] 3 (0, 0)) := hW1 ▸ World.alloc_heap_new w _
  have hs1 : w.heap.size < W1.heap.size := (Array.getElem?_eq_some_iff.1 hg1).1
  have HG1 := Lib.hid hg1
  rw [hW1]
  clear hW1 hg1
  refine (exCall 2 3 _ _ HG1.out (by decide)).mono ?_
  rintro e W2 ⟨rfl, hb2⟩
  have HG2 := Lib.hid ((hb2.block w.heap.size hs1).trans HG1.out)
  have hs2 : w.heap.size < W2.heap.size := Nat.lt_of_lt_of_le hs1 hb2.size
  go_wp2_with fail
  refine (exCall (-1) 2 _ _ HG2.out (by decide)).mono ?_
  rintro e W3 ⟨rfl, hb3⟩
  go_wp2_with fail
  obtain ⟨W4, hW4⟩ : ∃ W4, W3.alloc (.cells #[.int .i64 0, .int .i64 0] 3) = W4 := ⟨_, rfl⟩
  have hb4 : Below W3.heap.size W3 W4 := hW4 ▸ (Below.refl _ W3).alloc (Nat.le_refl _) _
  have HG4 := Lib.hid (p := W4.heap[W3.heap.size]? = some (.cells #[.int .i64 0, .int .i64 0] 3 (0, 0))) (hW4 ▸ World.alloc_heap_new W3 _)
  rw [hW4]
  clear hW4
  refine (zeroCall _ _ HG4.out).mono ?_
  rintro e W5 ⟨rfl, hb5⟩
  go_wp2_with fail
  refine (worthCall 3 16 13 _ (by omega) (by decide)).mono ?_
  rintro e W6 ⟨rfl, rfl⟩
  go_wp2_with fail
  refine (worthCall 0 16 0 _ (by omega) (by decide)).mono ?_
  rintro e W6 ⟨rfl, rfl⟩
  go_wp2_with fail
  refine (worthCall 17 16 0 _ (by omega) (by decide)).mono ?_
  rintro e W6 ⟨rfl, rfl⟩
  go_wp2_with fail
  go_ret
  exact ⟨rfl, hb1.trans ((hb2.mono (Nat.le_of_lt hs1)).trans ((hb3.mono (Nat.le_of_lt hs2)).trans ((hb4.mono (Nat.le_trans (Nat.le_of_lt hs2) hb3.size)).trans (hb5.mono (Nat.le_trans (Nat.le_of_lt hs2) (Nat.le_trans hb3.size hb4.size))))))⟩
theorem tmod_cases (x n : Int) (h1 : 1 ≤ n) (hx : x < 0) : (x.tmod n < 0 ∧ x.tmod n + n = x % n ∧ -n < x.tmod n) ∨ (¬ x.tmod n < 0 ∧ x.tmod n = x % n) := by
  have h := Int.tmod_eq_emod (a := x) (b := n)
  have hb := Int.emod_nonneg x (show n ≠ 0 by omega)
  have hc := Int.emod_lt_of_pos x (show 0 < n by omega)
  by_cases hd : n ∣ x
  · right
    rw [if_pos (.inr hd)] at h
    omega
  · left
    rw [if_neg (by intro h5; rcases h5 with h5 | h5; · omega
                   · exact hd h5)] at h
    have : 0 < x % n := by
      rcases Int.lt_or_eq_of_le hb with h6 | h6
      · exact h6
      · exact absurd (Int.dvd_of_emod_eq_zero h6.symm) hd
    omega
set_option maxHeartbeats 400000 in
theorem pick14 (x n : Int) (w : World) (h1 : 1 ≤ n) (h2 : n ≤ 9223372036854775807) :
    Calls Try.prog 14 #[.int .i64 x, .int .i64 n] w fun e w' => e = .returned (.int .i64 (x % n)) ∧ w = w' := by
  have hz : ¬ n = 0 := by omega
  by_cases hx : x < 0
  · have hc := tmod_cases x n h1 hx
    obtain ⟨r, hr⟩ : ∃ r, x.tmod n = r := ⟨_, rfl⟩
    rw [hr] at hc
    have HR := Lib.hid hr
    rcases hc with ⟨h5, h6, h7⟩ | ⟨h5, h6⟩
    · have H6 := Lib.hid h6
      clear h6
      go_enter Try.func14, Try.ntmps14
      go_wp2
      go_ret
      exact ⟨ret_int H6.out, rfl⟩
    · have H6 := Lib.hid h6
      clear h6
      go_enter Try.func14, Try.ntmps14
      go_wp2
      go_ret
      exact ⟨ret_int H6.out, rfl⟩
  · have h5 := Int.emod_nonneg x hz
    go_enter Try.func14, Try.ntmps14
    go_wp2
    go_ret
    exact ⟨rfl, rfl⟩
end Go.Proofs.Ytnebpcoegomoeaa
