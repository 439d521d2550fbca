/- The kit's lists of api.Op: marks, the same, lent, kept. -/
import Derived.Test.YthdllbbjajddiaaGreatDoorBkP
import Derived.Test.YthdllbbjajddiaaGreatDoorGa
import Derived.Test.YthdllbbjajddiaaGreatDoorKm
import Derived.Test.YthdllbbjajddiaaGreatDoorBig2
import Derived.Laws.MakeOwn
import Derived.IntWalk
set_option linter.all false
namespace Go.Proofs.YthdllbbjajddiaaGreatDoor
open Go.RowKit
abbrev ElO := Nat
def mkO (k i : Nat) : ElO := 1000003 * (k + 7) + i
def cellsO (x : ElO) : List Value := opL 0 (x : Int) 0 0 none 0 0 none 0 0
theorem lenO (x : ElO) : (cellsO x).length = 6 := rfl
theorem oneO (x : ElO) : ∀ v ∈ cellsO x, v.oneCell' = true := opL_one _ _ _ _ _ _ _ _ _ _
def zO : List Value := zOp
theorem zO_len : zO.length = 6 := rfl
theorem zeroVO (u : World) : (zeroValue 26).run Tryz.prog u = .ok (.agg zO.toArray) u := zeroVOp u
theorem infoOz : (Tryz.prog.info? 26).map (fun i => (i.zero, i.size, i.bytes)) = some (some (.agg zO.toArray), 6, 80) := by kernel_rfl
theorem buildO0 (x : Int) (u : World) : BuildRun Tryz.prog 26 #[(1, .int .i64 x)] u (.agg (opL 0 x 0 0 none 0 0 none 0 0).toArray) := ⟨by kernel_rfl⟩
theorem buildO (k i : Nat) (hi : i < 1000000000) (hk : k < 100000) (u : World) : BuildRun Tryz.prog 26 #[(1, .int .i64 (1000003 * (k + 7) + i : Nat))] u (.agg (cellsO (mkO k i)).toArray) := buildO0 _ u
theorem wideO (L : Nat → ElO) : Wide 6 (fun i => cellsO (L i)) := fun i => lenO (L i)
theorem onesO (L : Nat → ElO) (n : Nat) : ∀ u ∈ flatS (fun i => cellsO (L i)) n, u.oneCell' = true := flatS_one fun _ _ u hu => oneO _ u hu
theorem sizeO (x : ElO) : (Tryz.prog.info? 26).map (·.size) = some (cellsO x).length := by
  rw [lenO]; kernel_rfl
set_option maxRecDepth 100000 in
theorem markO (k i : Nat) (w : World) (hk : k < 100000) (hi : i < 1000000000) : Calls Tryz.prog 95 #[.int .i64 k, .int .i64 i] w fun e w' => e = .returned (.agg (cellsO (mkO k i)).toArray) ∧ Below w.heap.size w w' := by
  have hb := buildO k i hi hk
  have HB := Lib.hid hb
  clear hb
  have hsz := sizeO (mkO k i)
  have HSZ := Lib.hid hsz
  have HL := Lib.hid (lenO (mkO k i))
  have HO := Lib.hid (oneO (mkO k i))
  clear hsz
  obtain ⟨cs, hcs⟩ : ∃ cs, cs = cellsO (mkO k i) := ⟨_, rfl⟩
  rw [← hcs] at HB HSZ HL HO ⊢
  clear hcs
  go_enter Tryz.func95, Tryz.ntmps95
  go_wp2_with (refine wpList_laid rfl 26 rfl zO (zeroVO _) ?_)
  refine (mark_k k i _ hk hi).mono ?_
  rintro e _ ⟨rfl, rfl⟩
  obtain ⟨x, hx⟩ : ∃ x : Nat, x = 1000003 * (k + 7) + i := ⟨_, rfl⟩
  rw [← hx] at HB ⊢
  obtain ⟨b, hb⟩ : ∃ b, b = w.heap.size := ⟨_, rfl⟩
  have HH := Lib.hid (heap_new_at (w := w) (.cells zO.toArray 26) hb)
  have HW : Hid (Below w.heap.size w (w.alloc (.cells zO.toArray 26))) := Lib.hid ((Below.refl _ _).alloc (Nat.le_refl _) _)
  have HBL : Hid (w.heap.size ≤ b) := Lib.hid (Nat.le_of_eq hb.symm)
  rw [← hb]
  clear hx hb
  go_wp2_with (first | (refine wpList_buildG rfl 26 [(1, .tmp 7)] rfl [(1, .int .i64 (x : Nat))] rfl _ (HB.out _) ?_) | (refine wpList_store_segK rfl 26 (.tmp 4) (.tmp 8) rfl b 0 rfl cs rfl zO 26 HH.out HSZ.out (by rw [HL.out, zO_len]; omega) HO.out rfl ?_; intro w3 h3 k3 s3))
  rw [splice_whole _ _ (by rw [HL.out, zO_len])] at h3
  have hz : w3.rangeAt b 0 cs := fun j v hj => block_cell h3 _ v (by rw [Nat.zero_add]; simpa using hj)
  refine bodyPost_ret (results_cell_one rfl _ _ b _ _ rfl hz Tryz.underlying26 rfl HSZ.out) rfl ?_
  exact ⟨rfl, HW.out.trans (k3.below (fun k hk => by rw [hk]; exact HBL.out) HW.out.size)⟩
theorem sameO (m : ElO) (cs : List Value) (h : cs = cellsO m) (w : World) : Calls Tryz.prog 15 #[.agg cs.toArray, .agg cs.toArray] w fun e w' => e = .returned (.bool true) ∧ Below w.heap.size w w' := by
  subst h
  exact same23 (fun _ => default) (fun _ => default) 0 (m : Int) 0 0 none none 0 0 0 none none 0 0 0 w (by omega) (by omega) (fun h => absurd h (by omega)) (fun h => absurd h (by omega)) (fun h => absurd h (by omega)) (fun h => absurd h (by omega))
end Go.Proofs.YthdllbbjajddiaaGreatDoor
