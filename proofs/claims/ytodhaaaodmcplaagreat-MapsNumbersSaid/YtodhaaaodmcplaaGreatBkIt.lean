/- The kit's lists of api.Item: marks, the same, lent, kept. -/
import Derived.Test.YtodhaaaodmcplaaGreatIt
import Derived.Test.YtodhaaaodmcplaaGreatKm
import Derived.Test.YtodhaaaodmcplaaGreatBig2
import Derived.Test.YtodhaaaodmcplaaGreatCn
import Derived.Laws.MakeOwn
import Derived.IntWalk
set_option linter.all false
namespace Go.Proofs.YtodhaaaodmcplaaGreat
open Go.RowKit
theorem wideIt (L : Nat → ElIt) : Wide 73 (fun i => cellsIt (L i)) := fun i => lenIt (L i)
theorem onesIt (L : Nat → ElIt) (n : Nat) : ∀ u ∈ flatS (fun i => cellsIt (L i)) n, u.oneCell' = true := flatS_one fun _ _ u hu => oneIt _ u hu
theorem sizeIt (x : ElIt) : (Tryz.prog.info? 75).map (·.size) = some (cellsIt x).length := by
  rw [lenIt]; kernel_rfl
set_option maxRecDepth 100000 in
theorem markIt (k i : Nat) (w : World) (hk : k < 100000) (hi : i < 1000000000) : Calls Tryz.prog 80 #[.int .i64 k, .int .i64 i] w fun e w' => e = .returned (.agg (cellsIt (mkIt k i)).toArray) ∧ Below w.heap.size w w' := by
  have hb := buildIt k i hi hk
  have HB := Lib.hid hb
  clear hb
  have hsz := sizeIt (mkIt k i)
  have HSZ := Lib.hid hsz
  have HL := Lib.hid (lenIt (mkIt k i))
  have HO := Lib.hid (oneIt (mkIt k i))
  clear hsz
  obtain ⟨cs, hcs⟩ : ∃ cs, cs = cellsIt (mkIt k i) := ⟨_, rfl⟩
  rw [← hcs] at HB HSZ HL HO ⊢
  clear hcs
  go_enter Tryz.func80, Tryz.ntmps80
  go_wp2_with (refine wpList_laid rfl 75 rfl zIt (zeroVIt _) ?_)
  refine (mark_k k i _ hk hi).mono ?_
  rintro e _ ⟨rfl, rfl⟩
  obtain ⟨x, hx⟩ : ∃ x : Nat, x = 1000003 * (k + 7) + i := ⟨_, rfl⟩
  rw [← hx] at HB ⊢
  obtain ⟨b, hb⟩ : ∃ b, b = w.heap.size := ⟨_, rfl⟩
  have HH := Lib.hid (heap_new_at (w := w) (.cells zIt.toArray 75) hb)
  have HW : Hid (Below w.heap.size w (w.alloc (.cells zIt.toArray 75))) := Lib.hid ((Below.refl _ _).alloc (Nat.le_refl _) _)
  have HBL : Hid (w.heap.size ≤ b) := Lib.hid (Nat.le_of_eq hb.symm)
  rw [← hb]
  clear hx hb
  go_wp2_with (first | (refine wpList_buildG rfl 75 [(3, .tmp 7)] rfl [(3, .int .i64 (x : Nat))] rfl _ (HB.out _) ?_) | (refine wpList_store_segK rfl 75 (.tmp 4) (.tmp 8) rfl b 0 rfl cs rfl zIt 75 HH.out HSZ.out (by rw [HL.out, zlIt]; omega) HO.out rfl ?_; intro w3 h3 k3 s3))
  rw [splice_whole _ _ (by rw [HL.out, zlIt])] at h3
  have hz : w3.rangeAt b 0 cs := fun j v hj => block_cell h3 _ v (by rw [Nat.zero_add]; simpa using hj)
  refine bodyPost_ret (results_cell_one rfl _ _ b _ _ rfl hz Tryz.underlying75 rfl HSZ.out) rfl ?_
  exact ⟨rfl, HW.out.trans (k3.below (fun k hk => by rw [hk]; exact HBL.out) HW.out.size)⟩
/-- An element's cells, read. -/
theorem elemIt {w : World} {B : Nat} {A : Option Addr} {n : Nat} {L : Nat → ElIt} (h : SArr w B A n 73 fun i => cellsIt (L i)) {b off k : Nat} (hA : A = some ⟨b, off, none⟩) (hk : k < n) : w.rangeAt b (off + k * 73) (cellsIt (L k)) := by
  obtain ⟨b', off', e, _, hc⟩ := h (by omega)
  rw [hA] at e
  injection e with e
  injection e with e1 e2
  subst e1 e2
  exact hc k hk
set_option maxRecDepth 100000 in
set_option maxHeartbeats 4000000 in
theorem sameIt (L : Nat → ElIt) (A A' : Option Addr) (n c c' B B' : Nat) (w : World) (hn : n ≤ 1099511627776) (ha : SArr w B A n 73 fun i => cellsIt (L i)) (ha' : SArr w B' A' n 73 fun i => cellsIt (L i)) :
    Calls Tryz.prog 12 #[.slice A n c, .slice A' n c'] w fun e w' => e = .returned (.bool true) ∧ ∃ m, w' = w.drewN m := by
  have HA := Lib.hid ha
  have HB := Lib.hid ha'
  clear ha ha'
  go_enter Tryz.func12, Tryz.ntmps12
  go_wp2_with fail
  go_loopw [5] (fun i wr => ∃ k : Nat, k ≤ n ∧ i = .int .i64 k ∧ ∃ m, wr = w.drewN m) (fun i _ => n - (intOf i).toNat)
  case atStart => exact ⟨0, Nat.zero_le _, rfl, 0, rfl⟩
  case round =>
    obtain ⟨k, hk, rfl, m, rfl⟩ := hrel
    by_cases hlt : k < n
    · obtain ⟨b, off, rfl, hb, hc⟩ := HA.out (by omega)
      obtain ⟨b', off', rfl, hb', hc'⟩ := HB.out (by omega)
      have h1 : Hid (∀ q, (w.drewN q).rangeAt b (off + k * 73) (cellsIt (L k))) := Lib.hid fun q => hc k hlt
      have h2 : Hid (∀ q, (w.drewN q).rangeAt b' (off' + k * 73) (cellsIt (L k))) := Lib.hid fun q => hc' k hlt
      have HSZ := Lib.hid (sizeIt (L k))
      have HEQ : Hid (∀ W, EqRun Tryz.prog 75 (cellsIt (L k)).toArray (cellsIt (L k)).toArray W true) := Lib.hid fun W => eqrIt (L k) W
      obtain ⟨cs, hcs⟩ : ∃ cs, cs = cellsIt (L k) := ⟨_, rfl⟩
      rw [← hcs] at h1 h2 HSZ HEQ
      have i1 : (0 : Int) ≤ k := by omega
      have i2 : (k : Int) < n := by omega
      clear hc hc' hcs
      go_wp2_with fail
      refine wp_region_held_drew (S := fun w' => w'.rangeAt b (off + k * 73) cs ∧ w'.rangeAt b' (off' + k * 73) cs) (by kernel_rfl) ⟨h1.out (m + 1), h2.out (m + 1)⟩ (fun hHeld => ?_)
      refine wpAnyH_take (i := 0) (v := ?_) (by simp only [List.getElem?_toArray, List.getElem?_cons_zero]; rfl) (by kernel_rfl) (by kernel_rfl) (by kernel_rfl) (by intro _ _ _ h; exact h) (Or.inl ⟨by rfl, ?_⟩) hHeld ?_
      rotate_left
      · (intro w hSw; (try dsimp only at hSw); go_simp; try with_reducible rfl)
      try simp only [Act.put, List.setIfInBounds_toArray, List.set_cons_zero, List.set_cons_succ]
      refine wpAnyH_take (i := 1) (v := ?_) (by simp only [List.getElem?_toArray, List.getElem?_cons_zero, List.getElem?_cons_succ]; rfl) (by kernel_rfl) (by kernel_rfl) (by kernel_rfl) (by intro _ _ _ h; exact h) (Or.inl ⟨by rfl, ?_⟩) hHeld ?_
      rotate_left
      · (intro w hSw; (try dsimp only at hSw); go_simp; try with_reducible rfl)
      try simp only [Act.put, List.setIfInBounds_toArray, List.set_cons_zero, List.set_cons_succ]
      refine wpAnyH_take (i := 2) (v := ?_) (by simp only [List.getElem?_toArray, List.getElem?_cons_zero, List.getElem?_cons_succ]; rfl) (by kernel_rfl) (by kernel_rfl) (by kernel_rfl) (by intro _ _ _ h; exact h) (Or.inl ⟨by rfl, ?_⟩) hHeld ?_
      rotate_left
      · (intro w hSw; (try dsimp only at hSw); go_simp; try with_reducible rfl)
      try simp only [Act.put, List.setIfInBounds_toArray, List.set_cons_zero, List.set_cons_succ]
      refine wpAnyH_take (i := 3) (v := _) (by simp only [List.getElem?_toArray, List.getElem?_cons_zero, List.getElem?_cons_succ]; rfl) (by kernel_rfl) (by kernel_rfl) (by kernel_rfl) (by intro _ _ _ h; exact h) (yieldsIf_load_mid (by rfl) 75 (.tmp 19) rfl b (off + k * 73) rfl cs _ (fun _ h => h.1) Tryz.underlying75 rfl HSZ.out) hHeld ?_
      try simp only [Act.put, List.setIfInBounds_toArray, List.set_cons_zero, List.set_cons_succ]
      refine wpAnyH_take (i := 4) (v := ?_) (by simp only [List.getElem?_toArray, List.getElem?_cons_zero, List.getElem?_cons_succ]; rfl) (by kernel_rfl) (by kernel_rfl) (by kernel_rfl) (by intro _ _ _ h; exact h) (Or.inl ⟨by rfl, ?_⟩) hHeld ?_
      rotate_left
      · (intro w hSw; (try dsimp only at hSw); go_simp; try with_reducible rfl)
      try simp only [Act.put, List.setIfInBounds_toArray, List.set_cons_zero, List.set_cons_succ]
      refine wpAnyH_take (i := 5) (v := ?_) (by simp only [List.getElem?_toArray, List.getElem?_cons_zero, List.getElem?_cons_succ]; rfl) (by kernel_rfl) (by kernel_rfl) (by kernel_rfl) (by intro _ _ _ h; exact h) (Or.inl ⟨by rfl, ?_⟩) hHeld ?_
      rotate_left
      · (intro w hSw; (try dsimp only at hSw); go_simp; try with_reducible rfl)
      try simp only [Act.put, List.setIfInBounds_toArray, List.set_cons_zero, List.set_cons_succ]
      refine wpAnyH_take (i := 6) (v := ?_) (by simp only [List.getElem?_toArray, List.getElem?_cons_zero, List.getElem?_cons_succ]; rfl) (by kernel_rfl) (by kernel_rfl) (by kernel_rfl) (by intro _ _ _ h; exact h) (Or.inl ⟨by rfl, ?_⟩) hHeld ?_
      rotate_left
      · (intro w hSw; (try dsimp only at hSw); go_simp; try with_reducible rfl)
      try simp only [Act.put, List.setIfInBounds_toArray, List.set_cons_zero, List.set_cons_succ]
      refine wpAnyH_take (i := 7) (v := _) (by simp only [List.getElem?_toArray, List.getElem?_cons_zero, List.getElem?_cons_succ]; rfl) (by kernel_rfl) (by kernel_rfl) (by kernel_rfl) (by intro _ _ _ h; exact h) (yieldsIf_load_mid (by rfl) 75 (.tmp 23) rfl b' (off' + k * 73) rfl cs _ (fun _ h => h.2) Tryz.underlying75 rfl HSZ.out) hHeld ?_
      try simp only [Act.put, List.setIfInBounds_toArray, List.set_cons_zero, List.set_cons_succ]
      refine wpAnyH_take (i := 8) (v := _) (by simp only [List.getElem?_toArray, List.getElem?_cons_zero, List.getElem?_cons_succ]; rfl) (by kernel_rfl) (by kernel_rfl) (by kernel_rfl) (by intro _ _ _ h; exact h) (yields_neq (by rfl) 75 (.tmp 20) (.tmp 24) rfl cs.toArray cs.toArray rfl rfl true eqgIt (fun W => HEQ.out W)) hHeld ?_
      try simp only [Act.put, List.setIfInBounds_toArray, List.set_cons_zero, List.set_cons_succ]
      refine wpAnyH_done (by kernel_rfl) ?_ _
      clear hHeld
      go_wp2_with fail
      go_roundw
      case rel => exact ⟨k + 1, by omega, by go_num, _, rfl⟩
      case measure => simp [intOf]; omega
    · obtain rfl : k = n := by omega
      go_wp2_with fail
      go_ret
      exact ⟨rfl, m, rfl⟩
def mkRowIt (t k : Nat) : List Value := flatS (fun i => cellsIt (mkIt t i)) k
theorem mkRowIt_len (t k : Nat) : (mkRowIt t k).length = k * 73 := flatS_len (wideIt _) k
def LentIt (w : World) (n : Nat) (xs : List Value) (e : Ending) (w' : World) : Prop :=
  ∃ g, e = .returned (.slice (some ⟨g, 0, none⟩) n (n + 12)) ∧ w.heap.size ≤ g ∧ w'.heap[g]? = some (.cells (xs ++ mkRowIt 1 12).toArray 75 (0, 0)) ∧ Below w.heap.size w w'
theorem row_belowIt {w : World} {base g n c s : Nat} {e : TypeId} {xs : List Value} (h : w.ownsRow base e s (.slice (some ⟨g, 0, none⟩) n c) n xs) : g < w.heap.size := (row_lt h (k := g) rfl).2
theorem lent_sarrIt {w : World} {g n : Nat} {L : Nat → ElIt} (hg : w.heap[g]? = some (.cells (flatS (fun i => cellsIt (L i)) n ++ mkRowIt 1 12).toArray 75 (0, 0))) : SArr w w.heap.size (some ⟨g, 0, none⟩) n 73 (fun i => cellsIt (L i)) :=
  SArr.ofCells (wideIt L) hg fun i hi => List.getElem?_append_left (by rw [flatS_len (wideIt L)]; exact hi)
end Go.Proofs.YtodhaaaodmcplaaGreat
