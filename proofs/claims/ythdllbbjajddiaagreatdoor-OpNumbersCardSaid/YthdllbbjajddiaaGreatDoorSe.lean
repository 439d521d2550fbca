/- Layer 25 (op): what is the same is told to be the same. Printed by genSame.py. -/
import Derived.Test.YthdllbbjajddiaaGreatDoorPy
import Derived.Test.YthdllbbjajddiaaGreatDoorSeg
import Derived.Deep.RegionHeld3
import Derived.Lib.MinMax
set_option linter.all false
namespace Go.Proofs.YthdllbbjajddiaaGreatDoor
open Go.RowKit Go.Maps Go.WideMaps
abbrev cells5F (f : ElF) := cellsF f
def kindsF : List IntKind := List.replicate 32 .u8 ++ [.i64, .i64, .i64, .i64]
def kindsP : List IntKind := [.i64] ++ (List.replicate 32 .u8 ++ [.i64, .i64])
theorem leafsF : leafs Tryz.prog 5 53 = some kindsF := by kernel_rfl
theorem leafsP : leafs Tryz.prog 5 48 = some kindsP := by kernel_rfl
theorem keyF : Tryz.prog.keyTypeAt 5 53 = true := by kernel_rfl
theorem keyP : Tryz.prog.keyTypeAt 5 48 = true := by kernel_rfl
theorem eqgF : Tryz.prog.eqGuardType Tryz.prog.depth 53 = false := by kernel_rfl
theorem eqgP : Tryz.prog.eqGuardType Tryz.prog.depth 48 = false := by kernel_rfl
theorem fitsF (f : ElF) : Fits (cellsF f) kindsF := Fits.join (fits_u8l f.2.key) ⟨⟨_, rfl, f.2.a⟩, ⟨_, rfl, f.2.n⟩, ⟨_, rfl, f.2.u⟩, ⟨_, rfl, f.2.r⟩, trivial⟩
theorem fitsP (p : ElP) : Fits (cellsP p) kindsP := Fits.join (k1 := [.i64]) ⟨⟨_, rfl, p.2.x⟩, trivial⟩ (Fits.join (fits_u8l p.2.key) ⟨⟨_, rfl, p.2.o⟩, ⟨_, rfl, p.2.m⟩, trivial⟩)
theorem eqF (c d : ElF) (w : World) : ∃ r : Bool, EqRun Tryz.prog 53 (cellsF c).toArray (cellsF d).toArray w r ∧ (r = true ↔ cellsF c = cellsF d) := by
  obtain ⟨r, hr, hiff⟩ := eql_fits (P := Tryz.prog) (t := 53) (m := 5) (d := 5) (by omega) keyF leafsF (xs := (cellsF c).toArray) (ys := (cellsF d).toArray) (by simp [Value.formed, Tryz.underlying53, lenF]; kernel_rfl) (by simp [Value.formed, Tryz.underlying53, lenF]; kernel_rfl) (by simpa using fitsF c) (by simpa using fitsF d) w
  exact ⟨r, ⟨hr⟩, hiff.trans (by simp)⟩
theorem eqrF (c : ElF) (w : World) : EqRun Tryz.prog 53 (cellsF c).toArray (cellsF c).toArray w true := by
  obtain ⟨r, hr, h⟩ := eqF c c w
  rwa [h.2 rfl] at hr
theorem eqP (c d : ElP) (w : World) : ∃ r : Bool, EqRun Tryz.prog 48 (cellsP c).toArray (cellsP d).toArray w r ∧ (r = true ↔ cellsP c = cellsP d) := by
  obtain ⟨r, hr, hiff⟩ := eql_fits (P := Tryz.prog) (t := 48) (m := 5) (d := 5) (by omega) keyP leafsP (xs := (cellsP c).toArray) (ys := (cellsP d).toArray) (by simp [Value.formed, Tryz.underlying48, lenP]; kernel_rfl) (by simp [Value.formed, Tryz.underlying48, lenP]; kernel_rfl) (by simpa using fitsP c) (by simpa using fitsP d) w
  exact ⟨r, ⟨hr⟩, hiff.trans (by simp)⟩
theorem eqrP (c : ElP) (w : World) : EqRun Tryz.prog 48 (cellsP c).toArray (cellsP c).toArray w true := by
  obtain ⟨r, hr, h⟩ := eqP c c w
  rwa [h.2 rfl] at hr
set_option maxRecDepth 100000 in
set_option maxHeartbeats 4000000 in
theorem sameF (L : Nat → ElF) (A A' : Option Addr) (n c c' B B' : Nat) (w : World) (hn : n ≤ 1099511627776) (ha : SArr w B A n 36 fun i => cellsF (L i)) (ha' : SArr w B' A' n 36 fun i => cellsF (L i)) :
    Calls Tryz.prog 37 #[.slice A n c, .slice A' n c'] w fun e w' => e = .returned (.bool true) ∧ ∃ m, w' = w.drewN m := by
  have HA := Lib.hid ha
  have HB := Lib.hid ha'
  clear ha ha'
  go_enter Tryz.func37, Tryz.ntmps37
  go_wp2_with fail
  go_loopw [5] (fun i wr => ∃ k : Nat, k ≤ n ∧ i = .int .i64 k ∧ ∃ m, wr = w.drewN m) (fun i _ => n - (intOf i).toNat)
  case atStart => exact ⟨0, Nat.zero_le _, rfl, 0, rfl⟩
  case round =>
    obtain ⟨k, hk, rfl, m, rfl⟩ := hrel
    by_cases hlt : k < n
    · obtain ⟨b, off, rfl, hb, hc⟩ := HA.out (by omega)
      obtain ⟨b', off', rfl, hb', hc'⟩ := HB.out (by omega)
      have h1 : Hid (∀ q, (w.drewN q).rangeAt b (off + k * 36) (cellsF (L k))) := Lib.hid fun q => hc k hlt
      have h2 : Hid (∀ q, (w.drewN q).rangeAt b' (off' + k * 36) (cellsF (L k))) := Lib.hid fun q => hc' k hlt
      have HSZ := Lib.hid (sizeF (L k))
      have HEQ : Hid (∀ W, EqRun Tryz.prog 53 (cellsF (L k)).toArray (cellsF (L k)).toArray W true) := Lib.hid fun W => eqrF (L k) W
      obtain ⟨cs, hcs⟩ : ∃ cs, cs = cellsF (L k) := ⟨_, rfl⟩
      rw [← hcs] at h1 h2 HSZ HEQ
      have i1 : (0 : Int) ≤ k := by omega
      have i2 : (k : Int) < n := by omega
      clear hc hc' hcs
      go_wp2_with fail
      refine wp_region_held_drew (S := fun w' => w'.rangeAt b (off + k * 36) cs ∧ w'.rangeAt b' (off' + k * 36) cs) (by kernel_rfl) ⟨h1.out (m + 1), h2.out (m + 1)⟩ (fun hHeld => ?_)
      refine wpAnyH_take (i := 0) (v := ?_) (by simp only [List.getElem?_toArray, List.getElem?_cons_zero]; rfl) (by kernel_rfl) (by kernel_rfl) (by kernel_rfl) (by intro _ _ _ h; exact h) (Or.inl ⟨by rfl, ?_⟩) hHeld ?_
      rotate_left
      · (intro w hSw; (try dsimp only at hSw); go_simp; try with_reducible rfl)
      try simp only [Act.put, List.setIfInBounds_toArray, List.set_cons_zero, List.set_cons_succ]
      refine wpAnyH_take (i := 1) (v := ?_) (by simp only [List.getElem?_toArray, List.getElem?_cons_zero, List.getElem?_cons_succ]; rfl) (by kernel_rfl) (by kernel_rfl) (by kernel_rfl) (by intro _ _ _ h; exact h) (Or.inl ⟨by rfl, ?_⟩) hHeld ?_
      rotate_left
      · (intro w hSw; (try dsimp only at hSw); go_simp; try with_reducible rfl)
      try simp only [Act.put, List.setIfInBounds_toArray, List.set_cons_zero, List.set_cons_succ]
      refine wpAnyH_take (i := 2) (v := ?_) (by simp only [List.getElem?_toArray, List.getElem?_cons_zero, List.getElem?_cons_succ]; rfl) (by kernel_rfl) (by kernel_rfl) (by kernel_rfl) (by intro _ _ _ h; exact h) (Or.inl ⟨by rfl, ?_⟩) hHeld ?_
      rotate_left
      · (intro w hSw; (try dsimp only at hSw); go_simp; try with_reducible rfl)
      try simp only [Act.put, List.setIfInBounds_toArray, List.set_cons_zero, List.set_cons_succ]
      refine wpAnyH_take (i := 3) (v := _) (by simp only [List.getElem?_toArray, List.getElem?_cons_zero, List.getElem?_cons_succ]; rfl) (by kernel_rfl) (by kernel_rfl) (by kernel_rfl) (by intro _ _ _ h; exact h) (yieldsIf_load_mid (by rfl) 53 (.tmp 19) rfl b (off + k * 36) rfl cs _ (fun _ h => h.1) Tryz.underlying53 rfl HSZ.out) hHeld ?_
      try simp only [Act.put, List.setIfInBounds_toArray, List.set_cons_zero, List.set_cons_succ]
      refine wpAnyH_take (i := 4) (v := ?_) (by simp only [List.getElem?_toArray, List.getElem?_cons_zero, List.getElem?_cons_succ]; rfl) (by kernel_rfl) (by kernel_rfl) (by kernel_rfl) (by intro _ _ _ h; exact h) (Or.inl ⟨by rfl, ?_⟩) hHeld ?_
      rotate_left
      · (intro w hSw; (try dsimp only at hSw); go_simp; try with_reducible rfl)
      try simp only [Act.put, List.setIfInBounds_toArray, List.set_cons_zero, List.set_cons_succ]
      refine wpAnyH_take (i := 5) (v := ?_) (by simp only [List.getElem?_toArray, List.getElem?_cons_zero, List.getElem?_cons_succ]; rfl) (by kernel_rfl) (by kernel_rfl) (by kernel_rfl) (by intro _ _ _ h; exact h) (Or.inl ⟨by rfl, ?_⟩) hHeld ?_
      rotate_left
      · (intro w hSw; (try dsimp only at hSw); go_simp; try with_reducible rfl)
      try simp only [Act.put, List.setIfInBounds_toArray, List.set_cons_zero, List.set_cons_succ]
      refine wpAnyH_take (i := 6) (v := ?_) (by simp only [List.getElem?_toArray, List.getElem?_cons_zero, List.getElem?_cons_succ]; rfl) (by kernel_rfl) (by kernel_rfl) (by kernel_rfl) (by intro _ _ _ h; exact h) (Or.inl ⟨by rfl, ?_⟩) hHeld ?_
      rotate_left
      · (intro w hSw; (try dsimp only at hSw); go_simp; try with_reducible rfl)
      try simp only [Act.put, List.setIfInBounds_toArray, List.set_cons_zero, List.set_cons_succ]
      refine wpAnyH_take (i := 7) (v := _) (by simp only [List.getElem?_toArray, List.getElem?_cons_zero, List.getElem?_cons_succ]; rfl) (by kernel_rfl) (by kernel_rfl) (by kernel_rfl) (by intro _ _ _ h; exact h) (yieldsIf_load_mid (by rfl) 53 (.tmp 23) rfl b' (off' + k * 36) rfl cs _ (fun _ h => h.2) Tryz.underlying53 rfl HSZ.out) hHeld ?_
      try simp only [Act.put, List.setIfInBounds_toArray, List.set_cons_zero, List.set_cons_succ]
      refine wpAnyH_take (i := 8) (v := _) (by simp only [List.getElem?_toArray, List.getElem?_cons_zero, List.getElem?_cons_succ]; rfl) (by kernel_rfl) (by kernel_rfl) (by kernel_rfl) (by intro _ _ _ h; exact h) (yields_neq (by rfl) 53 (.tmp 20) (.tmp 24) rfl cs.toArray cs.toArray rfl rfl true eqgF (fun W => HEQ.out W)) hHeld ?_
      try simp only [Act.put, List.setIfInBounds_toArray, List.set_cons_zero, List.set_cons_succ]
      refine wpAnyH_done (by kernel_rfl) ?_ _
      clear hHeld
      go_wp2_with fail
      go_roundw
      case rel => exact ⟨k + 1, by omega, by go_num, _, rfl⟩
      case measure => simp [intOf]; omega
    · obtain rfl : k = n := by omega
      go_wp2_with fail
      go_ret
      exact ⟨rfl, m, rfl⟩
set_option maxRecDepth 100000 in
set_option maxHeartbeats 4000000 in
theorem sameP (L : Nat → ElP) (A A' : Option Addr) (n c c' B B' : Nat) (w : World) (hn : n ≤ 1099511627776) (ha : SArr w B A n 35 fun i => cellsP (L i)) (ha' : SArr w B' A' n 35 fun i => cellsP (L i)) :
    Calls Tryz.prog 38 #[.slice A n c, .slice A' n c'] w fun e w' => e = .returned (.bool true) ∧ ∃ m, w' = w.drewN m := by
  have HA := Lib.hid ha
  have HB := Lib.hid ha'
  clear ha ha'
  go_enter Tryz.func38, Tryz.ntmps38
  go_wp2_with fail
  go_loopw [5] (fun i wr => ∃ k : Nat, k ≤ n ∧ i = .int .i64 k ∧ ∃ m, wr = w.drewN m) (fun i _ => n - (intOf i).toNat)
  case atStart => exact ⟨0, Nat.zero_le _, rfl, 0, rfl⟩
  case round =>
    obtain ⟨k, hk, rfl, m, rfl⟩ := hrel
    by_cases hlt : k < n
    · obtain ⟨b, off, rfl, hb, hc⟩ := HA.out (by omega)
      obtain ⟨b', off', rfl, hb', hc'⟩ := HB.out (by omega)
      have h1 : Hid (∀ q, (w.drewN q).rangeAt b (off + k * 35) (cellsP (L k))) := Lib.hid fun q => hc k hlt
      have h2 : Hid (∀ q, (w.drewN q).rangeAt b' (off' + k * 35) (cellsP (L k))) := Lib.hid fun q => hc' k hlt
      have HSZ := Lib.hid (sizeP (L k))
      have HEQ : Hid (∀ W, EqRun Tryz.prog 48 (cellsP (L k)).toArray (cellsP (L k)).toArray W true) := Lib.hid fun W => eqrP (L k) W
      obtain ⟨cs, hcs⟩ : ∃ cs, cs = cellsP (L k) := ⟨_, rfl⟩
      rw [← hcs] at h1 h2 HSZ HEQ
      have i1 : (0 : Int) ≤ k := by omega
      have i2 : (k : Int) < n := by omega
      clear hc hc' hcs
      go_wp2_with fail
      refine wp_region_held_drew (S := fun w' => w'.rangeAt b (off + k * 35) cs ∧ w'.rangeAt b' (off' + k * 35) cs) (by kernel_rfl) ⟨h1.out (m + 1), h2.out (m + 1)⟩ (fun hHeld => ?_)
      refine wpAnyH_take (i := 0) (v := ?_) (by simp only [List.getElem?_toArray, List.getElem?_cons_zero]; rfl) (by kernel_rfl) (by kernel_rfl) (by kernel_rfl) (by intro _ _ _ h; exact h) (Or.inl ⟨by rfl, ?_⟩) hHeld ?_
      rotate_left
      · (intro w hSw; (try dsimp only at hSw); go_simp; try with_reducible rfl)
      try simp only [Act.put, List.setIfInBounds_toArray, List.set_cons_zero, List.set_cons_succ]
      refine wpAnyH_take (i := 1) (v := ?_) (by simp only [List.getElem?_toArray, List.getElem?_cons_zero, List.getElem?_cons_succ]; rfl) (by kernel_rfl) (by kernel_rfl) (by kernel_rfl) (by intro _ _ _ h; exact h) (Or.inl ⟨by rfl, ?_⟩) hHeld ?_
      rotate_left
      · (intro w hSw; (try dsimp only at hSw); go_simp; try with_reducible rfl)
      try simp only [Act.put, List.setIfInBounds_toArray, List.set_cons_zero, List.set_cons_succ]
      refine wpAnyH_take (i := 2) (v := ?_) (by simp only [List.getElem?_toArray, List.getElem?_cons_zero, List.getElem?_cons_succ]; rfl) (by kernel_rfl) (by kernel_rfl) (by kernel_rfl) (by intro _ _ _ h; exact h) (Or.inl ⟨by rfl, ?_⟩) hHeld ?_
      rotate_left
      · (intro w hSw; (try dsimp only at hSw); go_simp; try with_reducible rfl)
      try simp only [Act.put, List.setIfInBounds_toArray, List.set_cons_zero, List.set_cons_succ]
      refine wpAnyH_take (i := 3) (v := _) (by simp only [List.getElem?_toArray, List.getElem?_cons_zero, List.getElem?_cons_succ]; rfl) (by kernel_rfl) (by kernel_rfl) (by kernel_rfl) (by intro _ _ _ h; exact h) (yieldsIf_load_mid (by rfl) 48 (.tmp 19) rfl b (off + k * 35) rfl cs _ (fun _ h => h.1) Tryz.underlying48 rfl HSZ.out) hHeld ?_
      try simp only [Act.put, List.setIfInBounds_toArray, List.set_cons_zero, List.set_cons_succ]
      refine wpAnyH_take (i := 4) (v := ?_) (by simp only [List.getElem?_toArray, List.getElem?_cons_zero, List.getElem?_cons_succ]; rfl) (by kernel_rfl) (by kernel_rfl) (by kernel_rfl) (by intro _ _ _ h; exact h) (Or.inl ⟨by rfl, ?_⟩) hHeld ?_
      rotate_left
      · (intro w hSw; (try dsimp only at hSw); go_simp; try with_reducible rfl)
      try simp only [Act.put, List.setIfInBounds_toArray, List.set_cons_zero, List.set_cons_succ]
      refine wpAnyH_take (i := 5) (v := ?_) (by simp only [List.getElem?_toArray, List.getElem?_cons_zero, List.getElem?_cons_succ]; rfl) (by kernel_rfl) (by kernel_rfl) (by kernel_rfl) (by intro _ _ _ h; exact h) (Or.inl ⟨by rfl, ?_⟩) hHeld ?_
      rotate_left
      · (intro w hSw; (try dsimp only at hSw); go_simp; try with_reducible rfl)
      try simp only [Act.put, List.setIfInBounds_toArray, List.set_cons_zero, List.set_cons_succ]
      refine wpAnyH_take (i := 6) (v := ?_) (by simp only [List.getElem?_toArray, List.getElem?_cons_zero, List.getElem?_cons_succ]; rfl) (by kernel_rfl) (by kernel_rfl) (by kernel_rfl) (by intro _ _ _ h; exact h) (Or.inl ⟨by rfl, ?_⟩) hHeld ?_
      rotate_left
      · (intro w hSw; (try dsimp only at hSw); go_simp; try with_reducible rfl)
      try simp only [Act.put, List.setIfInBounds_toArray, List.set_cons_zero, List.set_cons_succ]
      refine wpAnyH_take (i := 7) (v := _) (by simp only [List.getElem?_toArray, List.getElem?_cons_zero, List.getElem?_cons_succ]; rfl) (by kernel_rfl) (by kernel_rfl) (by kernel_rfl) (by intro _ _ _ h; exact h) (yieldsIf_load_mid (by rfl) 48 (.tmp 23) rfl b' (off' + k * 35) rfl cs _ (fun _ h => h.2) Tryz.underlying48 rfl HSZ.out) hHeld ?_
      try simp only [Act.put, List.setIfInBounds_toArray, List.set_cons_zero, List.set_cons_succ]
      refine wpAnyH_take (i := 8) (v := _) (by simp only [List.getElem?_toArray, List.getElem?_cons_zero, List.getElem?_cons_succ]; rfl) (by kernel_rfl) (by kernel_rfl) (by kernel_rfl) (by intro _ _ _ h; exact h) (yields_neq (by rfl) 48 (.tmp 20) (.tmp 24) rfl cs.toArray cs.toArray rfl rfl true eqgP (fun W => HEQ.out W)) hHeld ?_
      try simp only [Act.put, List.setIfInBounds_toArray, List.set_cons_zero, List.set_cons_succ]
      refine wpAnyH_done (by kernel_rfl) ?_ _
      clear hHeld
      go_wp2_with fail
      go_roundw
      case rel => exact ⟨k + 1, by omega, by go_num, _, rfl⟩
      case measure => simp [intOf]; omega
    · obtain rfl : k = n := by omega
      go_wp2_with fail
      go_ret
      exact ⟨rfl, m, rfl⟩
theorem same16 (f : Nat → Int) (A A' : Option Addr) (n c c' B B' : Nat) (w : World) (hn : n ≤ 1099511627776) (ha : Arr w B A n fun k => .int .u8 (f k)) (ha' : Arr w B' A' n fun k => .int .u8 (f k)) :
    Calls Tryz.prog 11 #[.slice A n c, .slice A' n c'] w fun e w' => e = .returned (.bool true) ∧ ∃ m, w' = w.drewN m := by
  have HA := Lib.hid ha
  have HB := Lib.hid ha'
  clear ha ha'
  go_enter Tryz.func11, Tryz.ntmps11
  go_wp2_with fail
  go_loopw [5] (fun i wr => ∃ k : Nat, k ≤ n ∧ i = .int .i64 k ∧ ∃ m, wr = w.drewN m) (fun i _ => n - (intOf i).toNat)
  case atStart => exact ⟨0, Nat.zero_le _, rfl, 0, rfl⟩
  case round =>
    obtain ⟨k, hk, rfl, m, rfl⟩ := hrel
    by_cases hlt : k < n
    · obtain ⟨b, off, rfl, hb, hc⟩ := HA.out (by omega)
      obtain ⟨b', off', rfl, hb', hc'⟩ := HB.out (by omega)
      have hck := hc k hlt
      have hck' := hc' k hlt
      clear hc hc'
      go_wp2_with fail
      go_quiet (fail)
      go_wp2_with fail
      go_roundw
      case rel => exact ⟨k + 1, by omega, by go_num, _, rfl⟩
      case measure => simp [intOf]; omega
    · obtain rfl : k = n := by omega
      go_wp2_with fail
      go_ret
      exact ⟨rfl, m, rfl⟩
set_option maxRecDepth 100000 in
set_option maxHeartbeats 4000000 in
theorem same23 (I : Nat → ElF) (P : Nat → ElP) (kd x n s : Int) (A1 A3 : Option Addr) (n1 c1 c3 : Nat) (A2 A4 : Option Addr) (n2 c2 c4 : Nat) (w : World) (hn1 : n1 ≤ 1000000000000) (hn2 : n2 ≤ 1000000000000)
    (ha1 : SArr w w.heap.size A1 n1 36 fun i => cellsF (I i)) (ha2 : SArr w w.heap.size A2 n2 35 fun i => cellsP (P i)) (ha3 : SArr w w.heap.size A3 n1 36 fun i => cellsF (I i)) (ha4 : SArr w w.heap.size A4 n2 35 fun i => cellsP (P i)) :
    Calls Tryz.prog 15 #[opV kd x n s A1 n1 c1 A2 n2 c2, opV kd x n s A3 n1 c3 A4 n2 c4] w fun e w' => e = .returned (.bool true) ∧ Below w.heap.size w w' := by
  have H1 := Lib.hid ha1
  have H2 := Lib.hid ha2
  have H3 := Lib.hid ha3
  have H4 := Lib.hid ha4
  have y1 : (kd == kd) = true := by simp
  have y2 : (x == x) = true := by simp
  have y3 : (n == n) = true := by simp
  have y4 : (s == s) = true := by simp
  clear ha1 ha2 ha3 ha4
  unfold opV
  go_enter Tryz.func15, Tryz.ntmps15
  go_upto_region 1 with fail
  obtain ⟨w1, hw1⟩ : ∃ w1, w1 = (w.alloc (.cells #[.int .u8 kd, .int .i64 x, .int .i64 n, .int .i64 s, .slice A1 n1 c1, .slice A2 n2 c2] 26)).alloc (.cells #[.int .u8 kd, .int .i64 x, .int .i64 n, .int .i64 s, .slice A3 n1 c3, .slice A4 n2 c4] 26) := ⟨_, rfl⟩
  have Q1 : Hid (w1.heap[w.heap.size]? = some (.cells #[.int .u8 kd, .int .i64 x, .int .i64 n, .int .i64 s, .slice A1 n1 c1, .slice A2 n2 c2] 26 (0, 0))) := Lib.hid (by rw [hw1]; exact heap_old (heap_new w _))
  have Q2 : Hid (w1.heap[w.heap.size + 1]? = some (.cells #[.int .u8 kd, .int .i64 x, .int .i64 n, .int .i64 s, .slice A3 n1 c3, .slice A4 n2 c4] 26 (0, 0))) := Lib.hid (by rw [hw1]; exact heap_new_at _ (by simp))
  have B1 : Hid (Below w.heap.size w w1) := Lib.hid (by rw [hw1]; exact ((Below.refl _ _).alloc (Nat.le_refl _) _).alloc (by simp) _)
  rw [← hw1]
  obtain ⟨q1, hq1⟩ : ∃ q, q = w.heap.size := ⟨_, rfl⟩
  obtain ⟨q2, hq2⟩ : ∃ q, q = w.heap.size + 1 := ⟨_, rfl⟩
  rw [← hq2] at Q2 ⊢
  rw [← hq1] at Q1 ⊢
  have a0 : w1.cell? ⟨q1, 0, none⟩ = some (.int .u8 kd) := block_cell Q1.out 0 _ rfl
  have a1 : w1.cell? ⟨q1, 1, none⟩ = some (.int .i64 x) := block_cell Q1.out 1 _ rfl
  have a2 : w1.cell? ⟨q1, 2, none⟩ = some (.int .i64 n) := block_cell Q1.out 2 _ rfl
  have a3 : w1.cell? ⟨q1, 3, none⟩ = some (.int .i64 s) := block_cell Q1.out 3 _ rfl
  have a4 : w1.cell? ⟨q1, 4, none⟩ = some (.slice A1 n1 c1) := block_cell Q1.out 4 _ rfl
  have b0 : w1.cell? ⟨q2, 0, none⟩ = some (.int .u8 kd) := block_cell Q2.out 0 _ rfl
  have b1 : w1.cell? ⟨q2, 1, none⟩ = some (.int .i64 x) := block_cell Q2.out 1 _ rfl
  have b2 : w1.cell? ⟨q2, 2, none⟩ = some (.int .i64 n) := block_cell Q2.out 2 _ rfl
  have b3 : w1.cell? ⟨q2, 3, none⟩ = some (.int .i64 s) := block_cell Q2.out 3 _ rfl
  have b4 : w1.cell? ⟨q2, 4, none⟩ = some (.slice A3 n1 c3) := block_cell Q2.out 4 _ rfl
  clear hw1 hq1 hq2
  go_wp2_with fail
  refine (sameF I A1 A3 n1 c1 c3 _ _ w1 (by omega) (H1.out.below B1.out (Nat.le_refl _)) (H3.out.below B1.out (Nat.le_refl _))).mono ?_
  rintro e w2 ⟨rfl, m, rfl⟩
  have a5 : (w1.drewN m).cell? ⟨q1, 5, none⟩ = some (.slice A2 n2 c2) := block_cell Q1.out 5 _ rfl
  have b5 : (w1.drewN m).cell? ⟨q2, 5, none⟩ = some (.slice A4 n2 c4) := block_cell Q2.out 5 _ rfl
  have B2 := Lib.hid (below_drewN B1.out m)
  go_wp2_with fail
  refine (sameP P A2 A4 n2 c2 c4 _ _ (w1.drewN m) (by omega) (H2.out.below B2.out (Nat.le_refl _)) (H4.out.below B2.out (Nat.le_refl _))).mono ?_
  rintro e w3 ⟨rfl, m2, rfl⟩
  have B3 := Lib.hid (below_drewN B2.out m2)
  go_wp2_with fail
  go_ret
  exact ⟨rfl, below_drewN B1.out (m + m2)⟩
end Go.Proofs.YthdllbbjajddiaaGreatDoor
