/- Part of the proof of the statements of layer 29 (victim): what each function of the layer, of the reference and of the laws computes, at every input; and that the laws return true. No condition. -/
import Derived.Test.YtnebpcoegomoeaaW
namespace Go.Proofs.Ytnebpcoegomoeaa
open Go.RowKit Go.Shelf
set_option maxHeartbeats 1000000 in
theorem picks3 (f : Nat → Int) (op : Int) (A : Option Addr) (n c : Nat) (w : World) (hn : n ≤ 17592186044400) (ha : Arr w w.heap.size A n fun j => .int .i64 (f j)) (hA : A = none → n = 0 ∧ c = 0) :
    Calls Try.prog 3 #[.slice A n c, .int .i64 op] w fun e w' => e = .returned (.bool true) ∧ Below w.heap.size w w' := by
  have HA := Lib.hid hA
  have HH := Lib.hid ha
  clear hA ha
  by_cases hl : n > 5000
  · go_enter Try.func3, Try.ntmps3
    go_wp2_with (go_at_call 7; refine (awake7 _).mono ?_; rintro e w1 ⟨rfl, hb1⟩)
    go_ret
    exact ⟨rfl, hb1⟩
  · go_enter Try.func3, Try.ntmps3
    go_wp2_with fail
    refine (lent8 f A n c w hn HH.out HA.out).mono ?_
    rintro e w1 ⟨g, rfl, hg, hblk, hb1⟩
    have HG := Lib.hid hblk
    have hgs : g < w1.heap.size := (Array.getElem?_eq_some_iff.1 hblk).1
    clear hblk
    go_wp2_with fail
    refine (pick9 f op _ n (n + 12) w1 (by omega) (Arr.ofBlock n _ HG.out (fun j hj => by simp [hj, List.getElem?_append]))).mono ?_
    rintro e w2 ⟨rfl, hb2⟩
    have HG2 := Lib.hid ((hb2.block g hgs).trans HG.out)
    have HH2 := Lib.hid ((HH.out.below hb1 (Nat.le_refl _)).below hb2 hb1.size)
    go_wp2_with fail
    refine (refPick10 f op A n c _ w2 (by omega) HH2.out).mono ?_
    rintro e w3 ⟨rfl, m, rfl⟩
    go_wp2_with fail
    refine (kept11 f A g n c _ _ hn (HH2.out.drewN m) HG2.out).mono ?_
    rintro e w4 ⟨rfl, m', rfl⟩
    go_wp2_with fail
    refine (awake7 _).mono ?_
    rintro e w5 ⟨rfl, hb5⟩
    go_wp2_with fail
    go_ret
    refine ⟨rfl, hb1.trans ((hb2.mono hb1.size).trans ?_)⟩
    exact (Below.mk rfl rfl rfl (Nat.le_refl _) (fun _ _ => rfl) : Below w.heap.size w2 (w2.drewN (m + m'))).trans (hb5.mono (Nat.le_trans hb1.size hb2.size))
set_option maxHeartbeats 1000000 in
theorem worth4 (u s : Int) (w : World) (hs : s ≤ 9223372036854775807) :
    Calls Try.prog 4 #[.int .i64 u, .int .i64 s] w fun e w' => e = .returned (.bool true) ∧ Below w.heap.size w w' := by
  go_enter Try.func4, Try.ntmps4
  go_wp2_with fail
  refine (worth12 u s _ hs).mono ?_
  rintro e w1 ⟨rfl, rfl⟩
  go_wp2_with fail
  refine (worth13 u s _ hs).mono ?_
  rintro e w1 ⟨rfl, rfl⟩
  go_wp2_with fail
  refine (awake7 _).mono ?_
  rintro e w5 ⟨rfl, hb5⟩
  go_wp2_with fail
  go_ret
  exact ⟨rfl, hb5⟩
end Go.Proofs.Ytnebpcoegomoeaa
