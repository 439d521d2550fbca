/- The kit's lists of api.Item: marks, the same, lent, kept. -/
import Derived.Test.YtodhaaaodmcplaaIt
import Derived.Test.YtodhaaaodmcplaaKm
import Derived.Test.YtodhaaaodmcplaaBig2
import Derived.Test.YtodhaaaodmcplaaCn
import Derived.Laws.MakeOwn
import Derived.IntWalk
set_option linter.all false
namespace Go.Proofs.Ytodhaaaodmcplaa
open Go.RowKit
theorem wideIt (L : Nat → ElIt) : Wide 73 (fun i => cellsIt (L i)) := fun i => lenIt (L i)
theorem onesIt (L : Nat → ElIt) (n : Nat) : ∀ u ∈ flatS (fun i => cellsIt (L i)) n, u.oneCell' = true := flatS_one fun _ _ u hu => oneIt _ u hu
theorem sizeIt (x : ElIt) : (Try.prog.info? 69).map (·.size) = some (cellsIt x).length := by
  rw [lenIt]; kernel_rfl
/-- An element's cells, read. -/
theorem elemIt {w : World} {B : Nat} {A : Option Addr} {n : Nat} {L : Nat → ElIt} (h : SArr w B A n 73 fun i => cellsIt (L i)) {b off k : Nat} (hA : A = some ⟨b, off, none⟩) (hk : k < n) : w.rangeAt b (off + k * 73) (cellsIt (L k)) := by
  obtain ⟨b', off', e, _, hc⟩ := h (by omega)
  rw [hA] at e
  injection e with e
  injection e with e1 e2
  subst e1 e2
  exact hc k hk
set_option maxRecDepth 100000 in
set_option maxHeartbeats 4000000 in
theorem sameIt (L : Nat → ElIt) (A A' : Option Addr) (n c c' B B' : Nat) (w : World) (hn : n ≤ 1099511627776) (ha : SArr w B A n 73 fun i => cellsIt (L i)) (ha' : SArr w B' A' n 73 fun i => cellsIt (L i)) :
    Calls Try.prog 18 #[.slice A n c, .slice A' n c'] w fun e w' => e = .returned (.bool true) ∧ ∃ m, w' = w.drewN m := by
  have HA := Lib.hid ha
  have HB := Lib.hid ha'
  clear ha ha'
  go_enter Try.func18, Try.ntmps18
  go_wp2_with fail
  go_loopw [5] (fun i wr => ∃ k : Nat, k ≤ n ∧ i = .int .i64 k ∧ ∃ m, wr = w.drewN m) (fun i _ => n - (intOf i).toNat)
  case atStart => exact ⟨0, Nat.zero_le _, rfl, 0, rfl⟩
  case round =>
    obtain ⟨k, hk, rfl, m, rfl⟩ := hrel
    by_cases hlt : k < n
    · obtain ⟨b, off, rfl, hb, hc⟩ := HA.out (by omega)
      obtain ⟨b', off', rfl, hb', hc'⟩ := HB.out (by omega)
      have h1 : Hid (∀ q, (w.drewN q).rangeAt b (off + k * 73) (cellsIt (L k))) := Lib.hid fun q => hc k hlt
      have h2 : Hid (∀ q, (w.drewN q).rangeAt b' (off' + k * 73) (cellsIt (L k))) := Lib.hid fun q => hc' k hlt
      have HSZ := Lib.hid (sizeIt (L k))
      have HEQ : Hid (∀ W, EqRun Try.prog 69 (cellsIt (L k)).toArray (cellsIt (L k)).toArray W true) := Lib.hid fun W => eqrIt (L k) W
      obtain ⟨cs, hcs⟩ : ∃ cs, cs = cellsIt (L k) := ⟨_, rfl⟩
      rw [← hcs] at h1 h2 HSZ HEQ
      have i1 : (0 : Int) ≤ k := by omega
      have i2 : (k : Int) < n := by omega
      clear hc hc' hcs
      go_wp2_with fail
      refine wp_region_held_drew (S := fun w' => w'.rangeAt b (off + k * 73) cs ∧ w'.rangeAt b' (off' + k * 73) cs) (by kernel_rfl) ⟨h1.out (m + 1), h2.out (m + 1)⟩ (fun hHeld => ?_)
      refine wpAnyH_take (i := 0) (v := ?_) (by simp only [List.getElem?_toArray, List.getElem?_cons_zero]; rfl) (by kernel_rfl) (by kernel_rfl) (by kernel_rfl) (by intro _ _ _ h; exact h) (Or.inl ⟨by rfl, ?_⟩) hHeld ?_
      rotate_left
      · (intro w hSw; (try dsimp only at hSw); go_simp; try with_reducible rfl)
      try simp only [Act.put, List.setIfInBounds_toArray, List.set_cons_zero, List.set_cons_succ]
      refine wpAnyH_take (i := 1) (v := ?_) (by simp only [List.getElem?_toArray, List.getElem?_cons_zero, List.getElem?_cons_succ]; rfl) (by kernel_rfl) (by kernel_rfl) (by kernel_rfl) (by intro _ _ _ h; exact h) (Or.inl ⟨by rfl, ?_⟩) hHeld ?_
      rotate_left
      · (intro w hSw; (try dsimp only at hSw); go_simp; try with_reducible rfl)
      try simp only [Act.put, List.setIfInBounds_toArray, List.set_cons_zero, List.set_cons_succ]
      refine wpAnyH_take (i := 2) (v := ?_) (by simp only [List.getElem?_toArray, List.getElem?_cons_zero, List.getElem?_cons_succ]; rfl) (by kernel_rfl) (by kernel_rfl) (by kernel_rfl) (by intro _ _ _ h; exact h) (Or.inl ⟨by rfl, ?_⟩) hHeld ?_
      rotate_left
      · (intro w hSw; (try dsimp only at hSw); go_simp; try with_reducible rfl)
      try simp only [Act.put, List.setIfInBounds_toArray, List.set_cons_zero, List.set_cons_succ]
      refine wpAnyH_take (i := 3) (v := _) (by simp only [List.getElem?_toArray, List.getElem?_cons_zero, List.getElem?_cons_succ]; rfl) (by kernel_rfl) (by kernel_rfl) (by kernel_rfl) (by intro _ _ _ h; exact h) (yieldsIf_load_mid (by rfl) 69 (.tmp 19) rfl b (off + k * 73) rfl cs _ (fun _ h => h.1) Try.underlying69 rfl HSZ.out) hHeld ?_
      try simp only [Act.put, List.setIfInBounds_toArray, List.set_cons_zero, List.set_cons_succ]
      refine wpAnyH_take (i := 4) (v := ?_) (by simp only [List.getElem?_toArray, List.getElem?_cons_zero, List.getElem?_cons_succ]; rfl) (by kernel_rfl) (by kernel_rfl) (by kernel_rfl) (by intro _ _ _ h; exact h) (Or.inl ⟨by rfl, ?_⟩) hHeld ?_
      rotate_left
      · (intro w hSw; (try dsimp only at hSw); go_simp; try with_reducible rfl)
      try simp only [Act.put, List.setIfInBounds_toArray, List.set_cons_zero, List.set_cons_succ]
      refine wpAnyH_take (i := 5) (v := ?_) (by simp only [List.getElem?_toArray, List.getElem?_cons_zero, List.getElem?_cons_succ]; rfl) (by kernel_rfl) (by kernel_rfl) (by kernel_rfl) (by intro _ _ _ h; exact h) (Or.inl ⟨by rfl, ?_⟩) hHeld ?_
      rotate_left
      · (intro w hSw; (try dsimp only at hSw); go_simp; try with_reducible rfl)
      try simp only [Act.put, List.setIfInBounds_toArray, List.set_cons_zero, List.set_cons_succ]
      refine wpAnyH_take (i := 6) (v := ?_) (by simp only [List.getElem?_toArray, List.getElem?_cons_zero, List.getElem?_cons_succ]; rfl) (by kernel_rfl) (by kernel_rfl) (by kernel_rfl) (by intro _ _ _ h; exact h) (Or.inl ⟨by rfl, ?_⟩) hHeld ?_
      rotate_left
      · (intro w hSw; (try dsimp only at hSw); go_simp; try with_reducible rfl)
      try simp only [Act.put, List.setIfInBounds_toArray, List.set_cons_zero, List.set_cons_succ]
      refine wpAnyH_take (i := 7) (v := _) (by simp only [List.getElem?_toArray, List.getElem?_cons_zero, List.getElem?_cons_succ]; rfl) (by kernel_rfl) (by kernel_rfl) (by kernel_rfl) (by intro _ _ _ h; exact h) (yieldsIf_load_mid (by rfl) 69 (.tmp 23) rfl b' (off' + k * 73) rfl cs _ (fun _ h => h.2) Try.underlying69 rfl HSZ.out) hHeld ?_
      try simp only [Act.put, List.setIfInBounds_toArray, List.set_cons_zero, List.set_cons_succ]
      refine wpAnyH_take (i := 8) (v := _) (by simp only [List.getElem?_toArray, List.getElem?_cons_zero, List.getElem?_cons_succ]; rfl) (by kernel_rfl) (by kernel_rfl) (by kernel_rfl) (by intro _ _ _ h; exact h) (yields_neq (by rfl) 69 (.tmp 20) (.tmp 24) rfl cs.toArray cs.toArray rfl rfl true eqgIt (fun W => HEQ.out W)) hHeld ?_
      try simp only [Act.put, List.setIfInBounds_toArray, List.set_cons_zero, List.set_cons_succ]
      refine wpAnyH_done (by kernel_rfl) ?_ _
      clear hHeld
      go_wp2_with fail
      go_roundw
      case rel => exact ⟨k + 1, by omega, by go_num, _, rfl⟩
      case measure => simp [intOf]; omega
    · obtain rfl : k = n := by omega
      go_wp2_with fail
      go_ret
      exact ⟨rfl, m, rfl⟩
def mkRowIt (t k : Nat) : List Value := flatS (fun i => cellsIt (mkIt t i)) k
theorem mkRowIt_len (t k : Nat) : (mkRowIt t k).length = k * 73 := flatS_len (wideIt _) k
def LentIt (w : World) (n : Nat) (xs : List Value) (e : Ending) (w' : World) : Prop :=
  ∃ g, e = .returned (.slice (some ⟨g, 0, none⟩) n (n + 12)) ∧ w.heap.size ≤ g ∧ w'.heap[g]? = some (.cells (xs ++ mkRowIt 1 12).toArray 69 (0, 0)) ∧ Below w.heap.size w w'
theorem row_belowIt {w : World} {base g n c s : Nat} {e : TypeId} {xs : List Value} (h : w.ownsRow base e s (.slice (some ⟨g, 0, none⟩) n c) n xs) : g < w.heap.size := (row_lt h (k := g) rfl).2
theorem lent_sarrIt {w : World} {g n : Nat} {L : Nat → ElIt} (hg : w.heap[g]? = some (.cells (flatS (fun i => cellsIt (L i)) n ++ mkRowIt 1 12).toArray 69 (0, 0))) : SArr w w.heap.size (some ⟨g, 0, none⟩) n 73 (fun i => cellsIt (L i)) :=
  SArr.ofCells (wideIt L) hg fun i hi => List.getElem?_append_left (by rw [flatS_len (wideIt L)]; exact hi)
end Go.Proofs.Ytodhaaaodmcplaa
