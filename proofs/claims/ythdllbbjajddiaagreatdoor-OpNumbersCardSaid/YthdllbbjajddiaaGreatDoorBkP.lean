/- The kit's lists of api.Put: marks, the same, lent, kept. -/
import Derived.Test.YthdllbbjajddiaaGreatDoorBkF
import Derived.Test.YthdllbbjajddiaaGreatDoorKm
import Derived.Test.YthdllbbjajddiaaGreatDoorBig2
import Derived.Laws.MakeOwn
import Derived.IntWalk
import Derived.Test.YthdllbbjajddiaaGreatDoorFs
set_option linter.all false
namespace Go.Proofs.YthdllbbjajddiaaGreatDoor
open Go.RowKit
def mkP (k i : Nat) : ElP := if h : (Lit.int .i64 (1000003 * (k + 7) + i : Nat)).wf = true then ⟨⟨(1000003 * (k + 7) + i : Nat), List.replicate 32 0, 0, 0⟩, h, kz_ok, wf00, wf00⟩ else default
theorem buildPm0 (x : Int) (u : World) : BuildRun Tryz.prog 48 #[(0, .int .i64 x)] u (.agg (puC ⟨x, List.replicate 32 0, 0, 0⟩).toArray) := ⟨by kernel_rfl⟩
theorem buildP (k i : Nat) (hi : i < 1000000000) (hk : k < 100000) (u : World) : BuildRun Tryz.prog 48 #[(0, .int .i64 (1000003 * (k + 7) + i : Nat))] u (.agg (cellsP (mkP k i)).toArray) := by
  have e : cellsP (mkP k i) = puC ⟨(1000003 * (k + 7) + i : Nat), List.replicate 32 0, 0, 0⟩ := by
    unfold mkP
    rw [dif_pos (mark_wf hi hk)]
    rfl
  rw [e]
  exact buildPm0 _ u
set_option maxRecDepth 100000 in
theorem markP (k i : Nat) (w : World) (hk : k < 100000) (hi : i < 1000000000) : Calls Tryz.prog 94 #[.int .i64 k, .int .i64 i] w fun e w' => e = .returned (.agg (cellsP (mkP k i)).toArray) ∧ Below w.heap.size w w' := by
  have hb := buildP k i hi hk
  have HB := Lib.hid hb
  clear hb
  have hsz := sizeP (mkP k i)
  have HSZ := Lib.hid hsz
  have HL := Lib.hid (lenP (mkP k i))
  have HO := Lib.hid (oneP (mkP k i))
  clear hsz
  obtain ⟨cs, hcs⟩ : ∃ cs, cs = cellsP (mkP k i) := ⟨_, rfl⟩
  rw [← hcs] at HB HSZ HL HO ⊢
  clear hcs
  go_enter Tryz.func94, Tryz.ntmps94
  go_wp2_with (refine wpList_laid rfl 48 rfl zP (zeroVP _) ?_)
  refine (mark_k k i _ hk hi).mono ?_
  rintro e _ ⟨rfl, rfl⟩
  obtain ⟨x, hx⟩ : ∃ x : Nat, x = 1000003 * (k + 7) + i := ⟨_, rfl⟩
  rw [← hx] at HB ⊢
  obtain ⟨b, hb⟩ : ∃ b, b = w.heap.size := ⟨_, rfl⟩
  have HH := Lib.hid (heap_new_at (w := w) (.cells zP.toArray 48) hb)
  have HW : Hid (Below w.heap.size w (w.alloc (.cells zP.toArray 48))) := Lib.hid ((Below.refl _ _).alloc (Nat.le_refl _) _)
  have HBL : Hid (w.heap.size ≤ b) := Lib.hid (Nat.le_of_eq hb.symm)
  rw [← hb]
  clear hx hb
  go_wp2_with (first | (refine wpList_buildG rfl 48 [(0, .tmp 7)] rfl [(0, .int .i64 (x : Nat))] rfl _ (HB.out _) ?_) | (refine wpList_store_segK rfl 48 (.tmp 4) (.tmp 8) rfl b 0 rfl cs rfl zP 48 HH.out HSZ.out (by rw [HL.out, zP_len]; omega) HO.out rfl ?_; intro w3 h3 k3 s3))
  rw [splice_whole _ _ (by rw [HL.out, zP_len])] at h3
  have hz : w3.rangeAt b 0 cs := fun j v hj => block_cell h3 _ v (by rw [Nat.zero_add]; simpa using hj)
  refine bodyPost_ret (results_cell_one rfl _ _ b _ _ rfl hz Tryz.underlying48 rfl HSZ.out) rfl ?_
  exact ⟨rfl, HW.out.trans (k3.below (fun k hk => by rw [hk]; exact HBL.out) HW.out.size)⟩
/-- An element's cells, read. -/
theorem elemP {w : World} {B : Nat} {A : Option Addr} {n : Nat} {L : Nat → ElP} (h : SArr w B A n 35 fun i => cellsP (L i)) {b off k : Nat} (hA : A = some ⟨b, off, none⟩) (hk : k < n) : w.rangeAt b (off + k * 35) (cellsP (L k)) := by
  obtain ⟨b', off', e, _, hc⟩ := h (by omega)
  rw [hA] at e
  injection e with e
  injection e with e1 e2
  subst e1 e2
  exact hc k hk
def mkRowP (t k : Nat) : List Value := flatS (fun i => cellsP (mkP t i)) k
theorem mkRowP_len (t k : Nat) : (mkRowP t k).length = k * 35 := flatS_len (wideP _) k
def LentP (w : World) (n : Nat) (xs : List Value) (e : Ending) (w' : World) : Prop :=
  ∃ g, e = .returned (.slice (some ⟨g, 0, none⟩) n (n + 12)) ∧ w.heap.size ≤ g ∧ w'.heap[g]? = some (.cells (xs ++ mkRowP 1 12).toArray 48 (0, 0)) ∧ Below w.heap.size w w'
theorem row_belowP {w : World} {base g n c s : Nat} {e : TypeId} {xs : List Value} (h : w.ownsRow base e s (.slice (some ⟨g, 0, none⟩) n c) n xs) : g < w.heap.size := (row_lt h (k := g) rfl).2
theorem lent_sarrP {w : World} {g n : Nat} {L : Nat → ElP} (hg : w.heap[g]? = some (.cells (flatS (fun i => cellsP (L i)) n ++ mkRowP 1 12).toArray 48 (0, 0))) : SArr w w.heap.size (some ⟨g, 0, none⟩) n 35 (fun i => cellsP (L i)) :=
  SArr.ofCells (wideP L) hg fun i hi => List.getElem?_append_left (by rw [flatS_len (wideP L)]; exact hi)
end Go.Proofs.YthdllbbjajddiaaGreatDoor
