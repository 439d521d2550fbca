/- The kit's lists of api.Fresh: marks, the same, lent, kept. -/
import Derived.Test.YthdllbbjajddiaaGreatDoorSe
import Derived.Test.YthdllbbjajddiaaGreatDoorKm
import Derived.Test.YthdllbbjajddiaaGreatDoorBig2
import Derived.Laws.MakeOwn
import Derived.IntWalk
import Derived.Test.YthdllbbjajddiaaGreatDoorFs
set_option linter.all false
namespace Go.Proofs.YthdllbbjajddiaaGreatDoor
open Go.RowKit
theorem cells_newS (w : World) (l : List Value) (t : TypeId) (j : Nat) (u : Value) (h : l[j]? = some u) : (w.alloc (.cells l.toArray t)).cell? ((⟨w.heap.size, 0, none⟩ : Addr).add j) = some u := by
  rw [Go.WideShapes.add_plain, Nat.zero_add]
  exact block_cell (heap_new w _) j u (by simpa using h)
theorem mark_wf {k i : Nat} (hi : i < 1000000000) (hk : k < 100000) : (Lit.int .i64 (1000003 * (k + 7) + i : Nat)).wf = true := wf_i64 (by omega)
def mkF (k i : Nat) : ElF := if h : (Lit.int .i64 (1000003 * (k + 7) + i : Nat)).wf = true then ⟨⟨List.replicate 32 0, (1000003 * (k + 7) + i : Nat), 0, 0, 0⟩, kz_ok, h, wf00, wf00, wf00⟩ else default
theorem buildPlM (x : Int) (u : World) : BuildRun Tryz.prog 51 #[(0, .int .i64 x)] u (.agg #[.int .i64 x, .int .i64 0, .int .i64 0, .int .i64 0]) := ⟨by kernel_rfl⟩
theorem buildFm0 (x : Int) (u : World) : BuildRun Tryz.prog 53 #[(1, .agg #[.int .i64 x, .int .i64 0, .int .i64 0, .int .i64 0])] u (.agg (frC ⟨List.replicate 32 0, x, 0, 0, 0⟩).toArray) := ⟨by kernel_rfl⟩
theorem buildF (k i : Nat) (hi : i < 1000000000) (hk : k < 100000) (u : World) : BuildRun Tryz.prog 53 #[(1, .agg #[.int .i64 (1000003 * (k + 7) + i : Nat), .int .i64 0, .int .i64 0, .int .i64 0])] u (.agg (cellsF (mkF k i)).toArray) := by
  have e : cellsF (mkF k i) = frC ⟨List.replicate 32 0, (1000003 * (k + 7) + i : Nat), 0, 0, 0⟩ := by
    unfold mkF
    rw [dif_pos (mark_wf hi hk)]
    rfl
  rw [e]
  exact buildFm0 _ u
set_option maxRecDepth 100000 in
theorem markF (k i : Nat) (w : World) (hk : k < 100000) (hi : i < 1000000000) : Calls Tryz.prog 93 #[.int .i64 k, .int .i64 i] w fun e w' => e = .returned (.agg (cellsF (mkF k i)).toArray) ∧ Below w.heap.size w w' := by
  have hb := buildF k i hi hk
  have HB := Lib.hid hb
  clear hb
  have hsz := sizeF (mkF k i)
  have HSZ := Lib.hid hsz
  have HL := Lib.hid (lenF (mkF k i))
  have HO := Lib.hid (oneF (mkF k i))
  clear hsz
  obtain ⟨cs, hcs⟩ : ∃ cs, cs = cellsF (mkF k i) := ⟨_, rfl⟩
  rw [← hcs] at HB HSZ HL HO ⊢
  clear hcs
  go_enter Tryz.func93, Tryz.ntmps93
  go_wp2_with (refine wpList_laid rfl 53 rfl zF (zeroVF _) ?_)
  refine (mark_k k i _ hk hi).mono ?_
  rintro e _ ⟨rfl, rfl⟩
  obtain ⟨x, hx⟩ : ∃ x : Nat, x = 1000003 * (k + 7) + i := ⟨_, rfl⟩
  rw [← hx] at HB ⊢
  obtain ⟨b, hb⟩ : ∃ b, b = w.heap.size := ⟨_, rfl⟩
  have HH := Lib.hid (heap_new_at (w := w) (.cells zF.toArray 53) hb)
  have HW : Hid (Below w.heap.size w (w.alloc (.cells zF.toArray 53))) := Lib.hid ((Below.refl _ _).alloc (Nat.le_refl _) _)
  have HBL : Hid (w.heap.size ≤ b) := Lib.hid (Nat.le_of_eq hb.symm)
  rw [← hb]
  clear hx hb
  go_wp2_with (first | (refine wpList_buildG rfl 51 [(0, .tmp 7)] rfl [(0, .int .i64 (x : Nat))] rfl _ (buildPlM _ _) ?_) | (refine wpList_buildG rfl 53 [(1, .tmp 8)] rfl [(1, .agg #[.int .i64 (x : Nat), .int .i64 0, .int .i64 0, .int .i64 0])] rfl _ (HB.out _) ?_) | (refine wpList_store_segK rfl 53 (.tmp 4) (.tmp 9) rfl b 0 rfl cs rfl zF 53 HH.out HSZ.out (by rw [HL.out, zF_len]; omega) HO.out rfl ?_; intro w3 h3 k3 s3))
  rw [splice_whole _ _ (by rw [HL.out, zF_len])] at h3
  have hz : w3.rangeAt b 0 cs := fun j v hj => block_cell h3 _ v (by rw [Nat.zero_add]; simpa using hj)
  refine bodyPost_ret (results_cell_one rfl _ _ b _ _ rfl hz Tryz.underlying53 rfl HSZ.out) rfl ?_
  exact ⟨rfl, HW.out.trans (k3.below (fun k hk => by rw [hk]; exact HBL.out) HW.out.size)⟩
/-- An element's cells, read. -/
theorem elemF {w : World} {B : Nat} {A : Option Addr} {n : Nat} {L : Nat → ElF} (h : SArr w B A n 36 fun i => cellsF (L i)) {b off k : Nat} (hA : A = some ⟨b, off, none⟩) (hk : k < n) : w.rangeAt b (off + k * 36) (cellsF (L k)) := by
  obtain ⟨b', off', e, _, hc⟩ := h (by omega)
  rw [hA] at e
  injection e with e
  injection e with e1 e2
  subst e1 e2
  exact hc k hk
def mkRowF (t k : Nat) : List Value := flatS (fun i => cellsF (mkF t i)) k
theorem mkRowF_len (t k : Nat) : (mkRowF t k).length = k * 36 := flatS_len (wideF _) k
def LentF (w : World) (n : Nat) (xs : List Value) (e : Ending) (w' : World) : Prop :=
  ∃ g, e = .returned (.slice (some ⟨g, 0, none⟩) n (n + 12)) ∧ w.heap.size ≤ g ∧ w'.heap[g]? = some (.cells (xs ++ mkRowF 1 12).toArray 53 (0, 0)) ∧ Below w.heap.size w w'
theorem row_belowF {w : World} {base g n c s : Nat} {e : TypeId} {xs : List Value} (h : w.ownsRow base e s (.slice (some ⟨g, 0, none⟩) n c) n xs) : g < w.heap.size := (row_lt h (k := g) rfl).2
theorem lent_sarrF {w : World} {g n : Nat} {L : Nat → ElF} (hg : w.heap[g]? = some (.cells (flatS (fun i => cellsF (L i)) n ++ mkRowF 1 12).toArray 53 (0, 0))) : SArr w w.heap.size (some ⟨g, 0, none⟩) n 36 (fun i => cellsF (L i)) :=
  SArr.ofCells (wideF L) hg fun i hi => List.getElem?_append_left (by rw [flatS_len (wideF L)]; exact hi)
end Go.Proofs.YthdllbbjajddiaaGreatDoor
