/- What is a right item of kind 2, 3 (layer 14, entry): the document's Right. Printed by genJ.py. -/
import Derived.Test.YtmckngkmlhemoaaI
namespace Go.Proofs.Ytmckngkmlhemoaa
open Go.RowKit
set_option maxRecDepth 100000 in
set_option maxHeartbeats 4000000 in
theorem right21_2 (cs : Array Value) (key : List Value) (pa ps pu pr sn un : Int) (sl : List Value) (so sm : Int) (w : World) (hi : ItemIs cs 2 key pa ps pu pr sn un sl so sm) (hf : Fits sl sliceK) (hk : Fits key keyK) (hp : Fits [.int .i64 pa, .int .i64 ps, .int .i64 pu, .int .i64 pr] placeK) :
    Calls Try.prog 21 #[.agg cs] w fun e w' => e = .returned (.bool (inB sn 0 1073741824 && inB un 0 511 && (inB so 0 15 && inB sm 1 255) && zeroB key && zeroB [.int .i64 pa, .int .i64 ps, .int .i64 pu, .int .i64 pr])) ∧ Below w.heap.size w w' := by
  have H := Lib.hid hi
  have so1 := Lib.hid hi.off
  have sm1 := Lib.hid hi.mask
  have hfH := Lib.hid hf
  have hkH := Lib.hid hk
  have hpH := Lib.hid hp
  obtain ⟨c0, c1, c2, c3, c4, c5⟩ := hi.at_ (heap_new w (.cells cs 30))
  have d0 := c2 0 _ rfl
  have d1 := c2 1 _ rfl
  have d2 := c2 2 _ rfl
  have d3 := c2 3 _ rfl
  simp only [Nat.add_zero, Nat.reduceAdd] at d0 d1 d2 d3
  have HW := Lib.hid ((Below.refl _ w).alloc (Nat.le_refl w.heap.size) (.cells cs 30))
  have hls : Hid ((Try.prog.info? 28).map (·.size) = some sl.length) := Lib.hid (by rw [H.out.sl_len]; exact info28)
  have hlk : Hid ((Try.prog.info? 24).map (·.size) = some key.length) := Lib.hid (by rw [H.out.key_len]; exact info24)
  have hlt : w.heap.size < (w.alloc (.cells cs 30)).heap.size := by simp
  clear hi c2 hf hk hp
  cases t0 : inB sn 0 1073741824
  · go_enter Try.func21, Try.ntmps21
    go_wp2_with (go_at_call 27; refine (within27 _ _ _ _).mono ?_; rintro e w' ⟨rfl, rfl⟩)
    all_goals exact ⟨rfl, _, results_tmp rfl _ _ _, by simp_all [go_sem, zeroB], HW.out⟩
  · have _k0 := True.intro
    cases t1 : inB un 0 511
    · go_enter Try.func21, Try.ntmps21
      go_wp2_with (go_at_call 27; refine (within27 _ _ _ _).mono ?_; rintro e w' ⟨rfl, rfl⟩)
      all_goals exact ⟨rfl, _, results_tmp rfl _ _ _, by simp_all [go_sem, zeroB], HW.out⟩
    · have _k1 := True.intro
      cases t2 : (inB so 0 15 && inB sm 1 255)
      · go_enter Try.func21, Try.ntmps21
        go_wp2_with first | (go_at_call 27; refine (within27 _ _ _ _).mono ?_; rintro e w' ⟨rfl, rfl⟩) | (refine wpList_load_midG rfl 28 (.tmp 37) rfl w.heap.size 39 rfl sl _ c5 Try.underlying28 rfl hls.out ?_)
        refine (slice28 sl.toArray so sm _ (by simpa using so1.out) (by simpa using sm1.out)).mono ?_
        rintro e w1 ⟨rfl, h1⟩
        rw [t2]
        go_wp2_with fail
        all_goals exact ⟨rfl, _, results_tmp rfl _ _ _, by simp_all [go_sem, zeroB], HW.out.trans (h1.mono (by simp))⟩
      · have _k2 := True.intro
        cases t3 : zeroB key
        · go_enter Try.func21, Try.ntmps21
          go_wp2_with first | (go_at_call 27; refine (within27 _ _ _ _).mono ?_; rintro e w' ⟨rfl, rfl⟩) | (refine wpList_load_midG rfl 28 (.tmp 37) rfl w.heap.size 39 rfl sl _ c5 Try.underlying28 rfl hls.out ?_)
          refine (slice28 sl.toArray so sm _ (by simpa using so1.out) (by simpa using sm1.out)).mono ?_
          rintro e w1 ⟨rfl, h1⟩
          rw [t2]
          have c1 : w1.rangeAt w.heap.size 1 key := fun j v hv => cell_kept h1 hlt (c1 j v hv)
          have d0 := cell_kept h1 hlt d0
          have d1 := cell_kept h1 hlt d1
          have d2 := cell_kept h1 hlt d2
          have d3 := cell_kept h1 hlt d3
          have z3 := eqz24 hkH.out w1
          rw [t3] at z3
          go_wp2_with first | (refine wpList_load_midG rfl 24 (.tmp 42) rfl w.heap.size 1 rfl key _ c1 Try.underlying24 rfl hlk.out ?_) | (refine wpList_eqlG rfl 24 (.tmp 43) (.tmp 44) rfl key.toArray _ rfl rfl _ eqg24 z3 ?_)
          all_goals exact ⟨rfl, _, results_tmp rfl _ _ _, by simp_all [go_sem, zeroB], HW.out.trans (h1.mono (by simp))⟩
        · go_enter Try.func21, Try.ntmps21
          go_wp2_with first | (go_at_call 27; refine (within27 _ _ _ _).mono ?_; rintro e w' ⟨rfl, rfl⟩) | (refine wpList_load_midG rfl 28 (.tmp 37) rfl w.heap.size 39 rfl sl _ c5 Try.underlying28 rfl hls.out ?_)
          refine (slice28 sl.toArray so sm _ (by simpa using so1.out) (by simpa using sm1.out)).mono ?_
          rintro e w1 ⟨rfl, h1⟩
          rw [t2]
          have c1 : w1.rangeAt w.heap.size 1 key := fun j v hv => cell_kept h1 hlt (c1 j v hv)
          have d0 := cell_kept h1 hlt d0
          have d1 := cell_kept h1 hlt d1
          have d2 := cell_kept h1 hlt d2
          have d3 := cell_kept h1 hlt d3
          have z3 := eqz24 hkH.out w1
          rw [t3] at z3
          go_wp2_with first | (refine wpList_load_midG rfl 24 (.tmp 42) rfl w.heap.size 1 rfl key _ c1 Try.underlying24 rfl hlk.out ?_) | (refine wpList_eqlG rfl 24 (.tmp 43) (.tmp 44) rfl key.toArray _ rfl rfl _ eqg24 z3 ?_)
          all_goals exact ⟨rfl, _, results_tmp rfl _ _ _, by simp_all [go_sem, zeroB], HW.out.trans (h1.mono (by simp))⟩
set_option maxRecDepth 100000 in
set_option maxHeartbeats 4000000 in
theorem right21_3 (cs : Array Value) (key : List Value) (pa ps pu pr sn un : Int) (sl : List Value) (so sm : Int) (w : World) (hi : ItemIs cs 3 key pa ps pu pr sn un sl so sm) (hf : Fits sl sliceK) (hk : Fits key keyK) (hp : Fits [.int .i64 pa, .int .i64 ps, .int .i64 pu, .int .i64 pr] placeK) :
    Calls Try.prog 21 #[.agg cs] w fun e w' => e = .returned (.bool (inB sn 1 1073741824 && un == 0 && zeroB sl && zeroB key && zeroB [.int .i64 pa, .int .i64 ps, .int .i64 pu, .int .i64 pr])) ∧ Below w.heap.size w w' := by
  have H := Lib.hid hi
  have so1 := Lib.hid hi.off
  have sm1 := Lib.hid hi.mask
  have hfH := Lib.hid hf
  have hkH := Lib.hid hk
  have hpH := Lib.hid hp
  obtain ⟨c0, c1, c2, c3, c4, c5⟩ := hi.at_ (heap_new w (.cells cs 30))
  have d0 := c2 0 _ rfl
  have d1 := c2 1 _ rfl
  have d2 := c2 2 _ rfl
  have d3 := c2 3 _ rfl
  simp only [Nat.add_zero, Nat.reduceAdd] at d0 d1 d2 d3
  have HW := Lib.hid ((Below.refl _ w).alloc (Nat.le_refl w.heap.size) (.cells cs 30))
  have hls : Hid ((Try.prog.info? 28).map (·.size) = some sl.length) := Lib.hid (by rw [H.out.sl_len]; exact info28)
  have hlk : Hid ((Try.prog.info? 24).map (·.size) = some key.length) := Lib.hid (by rw [H.out.key_len]; exact info24)
  have hlt : w.heap.size < (w.alloc (.cells cs 30)).heap.size := by simp
  clear hi c2 hf hk hp
  cases t0 : inB sn 1 1073741824
  · have z2 := eqz28 hfH.out (w.alloc (.cells cs 30))
    have z3 := eqz24 hkH.out (w.alloc (.cells cs 30))
    go_enter Try.func21, Try.ntmps21
    go_wp2_with first | (go_at_call 27; refine (within27 _ _ _ _).mono ?_; rintro e w' ⟨rfl, rfl⟩)
    all_goals exact ⟨rfl, _, results_tmp rfl _ _ _, by simp_all [go_sem, zeroB], HW.out⟩
  · have _k0 := True.intro
    cases t1 : decide (un = 0)
    · have u1 : (un == 0) = false := by simpa using t1
      have z2 := eqz28 hfH.out (w.alloc (.cells cs 30))
      have z3 := eqz24 hkH.out (w.alloc (.cells cs 30))
      go_enter Try.func21, Try.ntmps21
      go_wp2_with first | (go_at_call 27; refine (within27 _ _ _ _).mono ?_; rintro e w' ⟨rfl, rfl⟩)
      all_goals exact ⟨rfl, _, results_tmp rfl _ _ _, by simp_all [go_sem, zeroB], HW.out⟩
    · have _k1 := True.intro
      cases t2 : zeroB sl
      · obtain rfl : un = 0 := by simpa using t1
        have z2 := eqz28 hfH.out (w.alloc (.cells cs 30))
        have z3 := eqz24 hkH.out (w.alloc (.cells cs 30))
        rw [t2] at z2
        go_enter Try.func21, Try.ntmps21
        go_wp2_with first | (go_at_call 27; refine (within27 _ _ _ _).mono ?_; rintro e w' ⟨rfl, rfl⟩) | (refine wpList_load_midG rfl 28 (.tmp 64) rfl w.heap.size 39 rfl sl _ c5 Try.underlying28 rfl hls.out ?_) | (refine wpList_eqlG rfl 28 (.tmp 65) (.tmp 66) rfl sl.toArray _ rfl rfl _ eqg28 z2 ?_)
        all_goals exact ⟨rfl, _, results_tmp rfl _ _ _, by simp_all [go_sem, zeroB], HW.out⟩
      · have _k2 := True.intro
        cases t3 : zeroB key
        · obtain rfl : un = 0 := by simpa using t1
          have z2 := eqz28 hfH.out (w.alloc (.cells cs 30))
          have z3 := eqz24 hkH.out (w.alloc (.cells cs 30))
          rw [t2] at z2
          rw [t3] at z3
          go_enter Try.func21, Try.ntmps21
          go_wp2_with first | (go_at_call 27; refine (within27 _ _ _ _).mono ?_; rintro e w' ⟨rfl, rfl⟩) | (refine wpList_load_midG rfl 28 (.tmp 64) rfl w.heap.size 39 rfl sl _ c5 Try.underlying28 rfl hls.out ?_) | (refine wpList_eqlG rfl 28 (.tmp 65) (.tmp 66) rfl sl.toArray _ rfl rfl _ eqg28 z2 ?_) | (refine wpList_load_midG rfl 24 (.tmp 70) rfl w.heap.size 1 rfl key _ c1 Try.underlying24 rfl hlk.out ?_) | (refine wpList_eqlG rfl 24 (.tmp 71) (.tmp 72) rfl key.toArray _ rfl rfl _ eqg24 z3 ?_)
          all_goals exact ⟨rfl, _, results_tmp rfl _ _ _, by simp_all [go_sem, zeroB], HW.out⟩
        · obtain rfl : un = 0 := by simpa using t1
          have z2 := eqz28 hfH.out (w.alloc (.cells cs 30))
          have z3 := eqz24 hkH.out (w.alloc (.cells cs 30))
          rw [t2] at z2
          rw [t3] at z3
          go_enter Try.func21, Try.ntmps21
          go_wp2_with first | (go_at_call 27; refine (within27 _ _ _ _).mono ?_; rintro e w' ⟨rfl, rfl⟩) | (refine wpList_load_midG rfl 28 (.tmp 64) rfl w.heap.size 39 rfl sl _ c5 Try.underlying28 rfl hls.out ?_) | (refine wpList_eqlG rfl 28 (.tmp 65) (.tmp 66) rfl sl.toArray _ rfl rfl _ eqg28 z2 ?_) | (refine wpList_load_midG rfl 24 (.tmp 70) rfl w.heap.size 1 rfl key _ c1 Try.underlying24 rfl hlk.out ?_) | (refine wpList_eqlG rfl 24 (.tmp 71) (.tmp 72) rfl key.toArray _ rfl rfl _ eqg24 z3 ?_)
          all_goals exact ⟨rfl, _, results_tmp rfl _ _ _, by simp_all [go_sem, zeroB], HW.out⟩
end Go.Proofs.Ytmckngkmlhemoaa
