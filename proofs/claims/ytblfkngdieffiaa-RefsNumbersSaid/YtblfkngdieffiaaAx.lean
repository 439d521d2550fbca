/- Layer 24 (refs): awake. -/
import Derived.Test.YtblfkngdieffiaaAw
namespace Go.Proofs.Ytblfkngdieffiaa
open Go.RowKit Go.Maps Go.WideMaps
def b8 (x : Int) : Prop := 0 ≤ x ∧ x < 256
theorem b5 : b8 5 := by unfold b8; omega
theorem b7 : b8 7 := by unfold b8; omega
theorem b9 : b8 9 := by unfold b8; omega
def itK : Itm := ⟨1, k8 9, 0, 0, 0, 0, 0, 0, k8 9, 0, 0⟩
def itKE : ElIt := ⟨itK, ⟨wf1u, k8_ok b9, wf0, wf0, wf0, wf0, wf0, wf0, k8_ok b9, wf0, wf0⟩⟩
def exI : Nat → ElIt := fun i => match i with | 0 => itE 7 b7 | 1 => itE 5 b5 | 2 => itKE | _ => itE 7 b7
theorem wf2 : (Lit.int .i64 2).wf = true := by kernel_rfl
theorem wf4 : (Lit.int .i64 4).wf = true := by kernel_rfl
theorem wfm : (Lit.int .i64 (-1)).wf = true := by kernel_rfl
def exA : Nat → ElC := fun i => match i with | 0 => ctE 5 1 b5 wf1 | _ => ctE 7 2 b7 wf2
def exB : Nat → ElC := fun i => match i with | 0 => ctE 9 4 b9 wf4 | 1 => ctE 7 1 b7 wf1 | _ => ctE 5 1 b5 wf1
def exD : Nat → ElC := fun i => match i with | 0 => ctE 7 (-1) b7 wfm | _ => ctE 9 4 b9 wf4
theorem csA : csI exI 4 = [⟨k8 7, 1⟩, ⟨k8 5, 1⟩, ⟨k8 7, 1⟩] := by kernel_rfl
theorem csD : csN (-1) exA 2 ++ csN 1 exB 3 = [⟨k8 5, -1⟩, ⟨k8 7, -2⟩, ⟨k8 9, 4⟩, ⟨k8 7, 1⟩, ⟨k8 5, 1⟩] := by kernel_rfl
theorem rowA : IsRow (csI exI 4) (lst exA 2) := by
  rw [csA]
  have h := (madeOf [⟨k8 7, 1⟩, ⟨k8 5, 1⟩, ⟨k8 7, 1⟩] (fun c hc => by
    simp at hc
    rcases hc with rfl | rfl | rfl <;> exact ⟨k8_ok (by omega), by kernel_rfl⟩)).row
  have e : (List.filter (fun c => decide (c.r ≠ 0)) (([⟨k8 7, 1⟩, ⟨k8 5, 1⟩, ⟨k8 7, 1⟩] : List Ct).foldl (fun R c => addC R c.k c.r) [])) = lst exA 2 := by kernel_rfl
  rwa [e] at h
theorem rowD : IsRow (csN (-1) exA 2 ++ csN 1 exB 3) (lst exD 2) := by
  rw [csD]
  have h := (madeOf [⟨k8 5, -1⟩, ⟨k8 7, -2⟩, ⟨k8 9, 4⟩, ⟨k8 7, 1⟩, ⟨k8 5, 1⟩] (fun c hc => by
    simp at hc
    rcases hc with rfl | rfl | rfl | rfl | rfl <;> exact ⟨k8_ok (by omega), by kernel_rfl⟩)).row
  have e : (List.filter (fun c => decide (c.r ≠ 0)) (([⟨k8 5, -1⟩, ⟨k8 7, -2⟩, ⟨k8 9, 4⟩, ⟨k8 7, 1⟩, ⟨k8 5, 1⟩] : List Ct).foldl (fun R c => addC R c.k c.r) [])) = lst exD 2 := by kernel_rfl
  rwa [e] at h
theorem buildR9 (u : World) : BuildRun Try.prog 40 #[(0, .agg (u8l (k8 9)).toArray)] u (.agg (u8l (k8 9) ++ [Value.int .i64 0, Value.int .i64 0]).toArray) := ⟨by kernel_rfl⟩
theorem buildI9 (u : World) : BuildRun Try.prog 42 #[(0, .int .u8 1), (1, .agg (u8l (k8 9)).toArray), (5, .agg (u8l (k8 9) ++ [Value.int .i64 0, Value.int .i64 0]).toArray)] u (.agg (cellsIt itKE).toArray) := ⟨by kernel_rfl⟩
set_option maxRecDepth 100000 in
set_option maxHeartbeats 4000000 in
theorem awake8 (w : World) : Calls Try.prog 8 #[] w fun e w' => e = .returned (.bool true) ∧ Below w.heap.size w w' := by
  obtain ⟨i0, hi, hz0, hz1, hz2⟩ := infoParts infoC
  have HI := Lib.hid (And.intro hi (And.intro hz0 hz1))
  clear hi hz0 hz1 hz2
  obtain ⟨i1, hi, hz0, hz1, hz2⟩ := infoParts infoIt
  have HJ := Lib.hid (And.intro hi (And.intro hz0 hz1))
  clear hi hz0 hz1 hz2
  have HK9 := Lib.hid fun u => buildK8 9 u
  have HR9 := Lib.hid fun u => buildR9 u
  have HI9 := Lib.hid fun u => buildI9 u
  have HS7 := Lib.hid fun W => slice19 7 b7 W
  have HS5 := Lib.hid fun W => slice19 5 b5 W
  have HLI : Hid (∀ k, k < 4 → (cellsIt (exI k)).length = 73) := Lib.hid fun k _ => lenIt _
  have HLA : Hid (∀ k, k < 2 → (cellsC (exA k)).length = 33) := Lib.hid fun k _ => lenC _
  have HLB : Hid (∀ k, k < 3 → (cellsC (exB k)).length = 33) := Lib.hid fun k _ => lenC _
  have HLD : Hid (∀ k, k < 2 → (cellsC (exD k)).length = 33) := Lib.hid fun k _ => lenC _
  obtain ⟨cI, hcI⟩ : ∃ cI, cI = fun i => cellsIt (exI i) := ⟨_, rfl⟩
  obtain ⟨cA, hcA⟩ : ∃ cA, cA = fun i => cellsC (exA i) := ⟨_, rfl⟩
  obtain ⟨cB, hcB⟩ : ∃ cB, cB = fun i => cellsC (exB i) := ⟨_, rfl⟩
  obtain ⟨cD, hcD⟩ : ∃ cD, cD = fun i => cellsC (exD i) := ⟨_, rfl⟩
  obtain ⟨k9, hk9⟩ : ∃ k9, k9 = (u8l (k8 9)).toArray := ⟨_, rfl⟩
  obtain ⟨r9, hr9⟩ : ∃ r9, r9 = (u8l (k8 9) ++ [Value.int .i64 0, Value.int .i64 0]).toArray := ⟨_, rfl⟩
  have HS7' : Hid (∀ W, Calls Try.prog 19 #[.int .u8 7] W fun e w' => e = .returned (.agg (cI 0).toArray) ∧ Below W.heap.size W w') := Lib.hid fun W => by rw [hcI]; exact HS7.out W
  have HS7'' : Hid (∀ W, Calls Try.prog 19 #[.int .u8 7] W fun e w' => e = .returned (.agg (cI 3).toArray) ∧ Below W.heap.size W w') := Lib.hid fun W => by rw [hcI]; exact HS7.out W
  have HS5' : Hid (∀ W, Calls Try.prog 19 #[.int .u8 5] W fun e w' => e = .returned (.agg (cI 1).toArray) ∧ Below W.heap.size W w') := Lib.hid fun W => by rw [hcI]; exact HS5.out W
  rw [← hk9] at HK9 HR9 HI9
  rw [← hr9] at HR9 HI9
  have HI9' : Hid (∀ u, BuildRun Try.prog 42 #[(0, .int .u8 1), (1, .agg k9), (5, .agg r9)] u (.agg (cI 2).toArray)) := Lib.hid fun u => by rw [hcI]; exact HI9.out u
  have HCT : Hid (∀ (x n : Int) (hx : 0 ≤ x ∧ x < 256) (hn : (Lit.int .i64 n).wf = true) (W : World), Calls Try.prog 20 #[.int .u8 x, .int .i64 n] W fun e w' => e = .returned (.agg (cellsC (ctE x n hx hn)).toArray) ∧ Below W.heap.size W w') := Lib.hid count20
  have HCB0 : Hid (∀ W, Calls Try.prog 20 #[.int .u8 9, .int .i64 4] W fun e w' => e = .returned (.agg (cB 0).toArray) ∧ Below W.heap.size W w') := Lib.hid fun W => by rw [hcB]; exact HCT.out 9 4 b9 wf4 W
  have HCB1 : Hid (∀ W, Calls Try.prog 20 #[.int .u8 7, .int .i64 1] W fun e w' => e = .returned (.agg (cB 1).toArray) ∧ Below W.heap.size W w') := Lib.hid fun W => by rw [hcB]; exact HCT.out 7 1 b7 wf1 W
  have HCB2 : Hid (∀ W, Calls Try.prog 20 #[.int .u8 5, .int .i64 1] W fun e w' => e = .returned (.agg (cB 2).toArray) ∧ Below W.heap.size W w') := Lib.hid fun W => by rw [hcB]; exact HCT.out 5 1 b5 wf1 W
  have HCA0 : Hid (∀ W, Calls Try.prog 20 #[.int .u8 5, .int .i64 1] W fun e w' => e = .returned (.agg (cA 0).toArray) ∧ Below W.heap.size W w') := Lib.hid fun W => by rw [hcA]; exact HCT.out 5 1 b5 wf1 W
  have HCA1 : Hid (∀ W, Calls Try.prog 20 #[.int .u8 7, .int .i64 2] W fun e w' => e = .returned (.agg (cA 1).toArray) ∧ Below W.heap.size W w') := Lib.hid fun W => by rw [hcA]; exact HCT.out 7 2 b7 wf2 W
  have HCD0 : Hid (∀ W, Calls Try.prog 20 #[.int .u8 7, .int .i64 (-1)] W fun e w' => e = .returned (.agg (cD 0).toArray) ∧ Below W.heap.size W w') := Lib.hid fun W => by rw [hcD]; exact HCT.out 7 (-1) b7 wfm W
  have HCD1 : Hid (∀ W, Calls Try.prog 20 #[.int .u8 9, .int .i64 4] W fun e w' => e = .returned (.agg (cD 1).toArray) ∧ Below W.heap.size W w') := Lib.hid fun W => by rw [hcD]; exact HCT.out 9 4 b9 wf4 W
  have HCI := Lib.hid hcI
  have HCA := Lib.hid hcA
  have HCB := Lib.hid hcB
  have HCD := Lib.hid hcD
  have HL4 : Hid (∀ k, k < 4 → (cI k).length = 73) := Lib.hid (by rw [hcI]; exact HLI.out)
  have HL2 : Hid (∀ k, k < 2 → (cA k).length = 33) := Lib.hid (by rw [hcA]; exact HLA.out)
  have HL3 : Hid (∀ k, k < 3 → (cB k).length = 33) := Lib.hid (by rw [hcB]; exact HLB.out)
  have HL2D : Hid (∀ k, k < 2 → (cD k).length = 33) := Lib.hid (by rw [hcD]; exact HLD.out)
  clear hcI hcA hcB hcD hk9 hr9 HCT HS7 HS5 HI9 HLI HLA HLB HLD
  go_enter Try.func8, Try.ntmps8
  go_wp2_with fail
  refine (HS7'.out _).mono ?_
  rintro e w1 ⟨rfl, hb⟩
  have B_w_1 : Hid (Below w.heap.size w w1) := Lib.hid (hb)
  clear hb
  go_wp2_with fail
  refine (HS5'.out _).mono ?_
  rintro e w2 ⟨rfl, hb⟩
  have B_w_2 : Hid (Below w.heap.size w w2) := Lib.hid (B_w_1.out.trans (hb.mono B_w_1.out.size))
  clear hb
  go_wp2_with (first | (refine wpList_buildG rfl 35 [(0, .const (.int .u8 9))] rfl [(0, .int .u8 9)] rfl _ (HK9.out _) ?_) | (refine wpList_buildG rfl 40 [(0, .tmp 6)] rfl [(0, .agg k9)] rfl _ (HR9.out _) ?_) | (refine wpList_buildG rfl 42 [(0, .const (.int .u8 1)), (1, .tmp 5), (5, .tmp 7)] rfl [(0, .int .u8 1), (1, .agg k9), (5, .agg r9)] rfl _ (HI9'.out _) ?_))
  refine (HS7''.out _).mono ?_
  rintro e w3 ⟨rfl, hb⟩
  have B_w_3 : Hid (Below w.heap.size w w3) := Lib.hid (B_w_2.out.trans (hb.mono B_w_2.out.size))
  clear hb
  go_wp2_with (refine wpList_sliceK rfl 22 42 4 73 #[(0, .tmp 3), (1, .tmp 4), (2, .tmp 8), (3, .tmp 9)] rfl cI (by simp only [List.map_toArray, List.map_cons, List.map_nil]; rfl) i1 (.agg zIt.toArray) Try.underlying22 HJ.out.1 HJ.out.2.1 HJ.out.2.2 HL4.out (by omega) (by omega) (by omega) ?_)
  have SA1 : Hid (SArr (w3.alloc (.cells (flatS cI 4).toArray 42)) (w3.alloc (.cells (flatS cI 4).toArray 42)).heap.size (some ⟨w3.heap.size, 0, none⟩) 4 73 (fun i => cellsIt (exI i))) := Lib.hid (by
    have := SArr.ofCells (n := 4) (fun i => lenIt (exI i)) (heap_new w3 (.cells (flatS (fun i => cellsIt (exI i)) 4).toArray 42)) (fun _ _ => rfl)
    rw [HCI.out]
    exact this.more (by simp))
  obtain ⟨v1, hv1⟩ : ∃ v1, v1 = w3.alloc (.cells (flatS cI 4).toArray 42) := ⟨_, rfl⟩
  have B_w_v1 : Hid (Below w.heap.size w v1) := Lib.hid (by rw [hv1]; exact B_w_3.out.alloc B_w_3.out.size _)
  obtain ⟨s1, hs1⟩ : ∃ s1, s1 = w3.heap.size := ⟨_, rfl⟩
  rw [← hs1, ← hv1] at SA1
  rw [← hs1, ← hv1]
  clear hv1 hs1
  refine (count10 exI _ 4 4 v1 (by omega) SA1.out).mono ?_
  rintro e w4 ⟨hr, hb⟩
  obtain ⟨A1, c1, rfl, _, _, _, hs1⟩ := rowOut_is hr rowA
  have B_w_4 : Hid (Below w.heap.size w w4) := Lib.hid (B_w_v1.out.trans (hb.mono B_w_v1.out.size))
  have SV := Lib.hid hs1
  clear hr hb hs1 SA1
  go_wp2_with fail
  refine (HCB0.out _).mono ?_
  rintro e w5 ⟨rfl, hb⟩
  have B_w_5 : Hid (Below w.heap.size w w5) := Lib.hid (B_w_4.out.trans (hb.mono B_w_4.out.size))
  have B_w4_5 : Hid (Below w4.heap.size w4 w5) := Lib.hid (hb)
  clear hb
  go_wp2_with fail
  refine (HCB1.out _).mono ?_
  rintro e w6 ⟨rfl, hb⟩
  have B_w_6 : Hid (Below w.heap.size w w6) := Lib.hid (B_w_5.out.trans (hb.mono B_w_5.out.size))
  have B_w4_6 : Hid (Below w4.heap.size w4 w6) := Lib.hid (B_w4_5.out.trans (hb.mono B_w4_5.out.size))
  clear hb
  go_wp2_with fail
  refine (HCB2.out _).mono ?_
  rintro e w7 ⟨rfl, hb⟩
  have B_w_7 : Hid (Below w.heap.size w w7) := Lib.hid (B_w_6.out.trans (hb.mono B_w_6.out.size))
  have B_w4_7 : Hid (Below w4.heap.size w4 w7) := Lib.hid (B_w4_6.out.trans (hb.mono B_w4_6.out.size))
  clear hb
  go_wp2_with (refine wpList_sliceK rfl 25 45 3 33 #[(0, .tmp 13), (1, .tmp 14), (2, .tmp 15)] rfl cB (by simp only [List.map_toArray, List.map_cons, List.map_nil]; rfl) i0 (.agg zC.toArray) Try.underlying25 HI.out.1 HI.out.2.1 HI.out.2.2 HL3.out (by omega) (by omega) (by omega) ?_)
  have SA2 : Hid (SArr (w7.alloc (.cells (flatS cB 3).toArray 45)) (w7.alloc (.cells (flatS cB 3).toArray 45)).heap.size (some ⟨w7.heap.size, 0, none⟩) 3 33 (fun i => cellsC (exB i))) := Lib.hid (by
    have := SArr.ofCells (n := 3) (fun i => lenC (exB i)) (heap_new w7 (.cells (flatS (fun i => cellsC (exB i)) 3).toArray 45)) (fun _ _ => rfl)
    rw [HCB.out]
    exact this.more (by simp))
  obtain ⟨v2, hv2⟩ : ∃ v2, v2 = w7.alloc (.cells (flatS cB 3).toArray 45) := ⟨_, rfl⟩
  have B_w_v2 : Hid (Below w.heap.size w v2) := Lib.hid (by rw [hv2]; exact B_w_7.out.alloc B_w_7.out.size _)
  have B_w4_v2 : Hid (Below w4.heap.size w4 v2) := Lib.hid (by rw [hv2]; exact B_w4_7.out.alloc B_w4_7.out.size _)
  obtain ⟨s2, hs2⟩ : ∃ s2, s2 = w7.heap.size := ⟨_, rfl⟩
  rw [← hs2, ← hv2] at SA2
  rw [← hs2, ← hv2]
  clear hv2 hs2
  have SV2 : Hid (SArr v2 v2.heap.size A1 2 33 fun i => cellsC (exA i)) := Lib.hid ((SV.out.below B_w4_v2.out (Nat.le_refl _)).more B_w4_v2.out.size)
  refine (delta16 exA exB A1 _ 2 c1 3 3 v2 (by omega) (by omega) SV2.out SA2.out).mono ?_
  rintro e w8 ⟨hr, hb⟩
  obtain ⟨A2, c2, rfl, _, _, _, hs2⟩ := rowOut_is hr rowD
  have B_w_8 : Hid (Below w.heap.size w w8) := Lib.hid (B_w_v2.out.trans (hb.mono B_w_v2.out.size))
  have B_w4_8 : Hid (Below w4.heap.size w4 w8) := Lib.hid (B_w4_v2.out.trans (hb.mono B_w4_v2.out.size))
  have SD := Lib.hid hs2
  clear hr hb hs2 SA2 SV2
  go_wp2_with fail
  refine (HCA0.out _).mono ?_
  rintro e w9 ⟨rfl, hb⟩
  have B_w_9 : Hid (Below w.heap.size w w9) := Lib.hid (B_w_8.out.trans (hb.mono B_w_8.out.size))
  have B_w4_9 : Hid (Below w4.heap.size w4 w9) := Lib.hid (B_w4_8.out.trans (hb.mono B_w4_8.out.size))
  have B_w8_9 : Hid (Below w8.heap.size w8 w9) := Lib.hid (hb)
  clear hb
  go_wp2_with fail
  refine (HCA1.out _).mono ?_
  rintro e w10 ⟨rfl, hb⟩
  have B_w_10 : Hid (Below w.heap.size w w10) := Lib.hid (B_w_9.out.trans (hb.mono B_w_9.out.size))
  have B_w4_10 : Hid (Below w4.heap.size w4 w10) := Lib.hid (B_w4_9.out.trans (hb.mono B_w4_9.out.size))
  have B_w8_10 : Hid (Below w8.heap.size w8 w10) := Lib.hid (B_w8_9.out.trans (hb.mono B_w8_9.out.size))
  clear hb
  go_wp2_with (refine wpList_sliceK rfl 25 45 2 33 #[(0, .tmp 19), (1, .tmp 20)] rfl cA (by simp only [List.map_toArray, List.map_cons, List.map_nil]; rfl) i0 (.agg zC.toArray) Try.underlying25 HI.out.1 HI.out.2.1 HI.out.2.2 HL2.out (by omega) (by omega) (by omega) ?_)
  have SA3 : Hid (SArr (w10.alloc (.cells (flatS cA 2).toArray 45)) (w10.alloc (.cells (flatS cA 2).toArray 45)).heap.size (some ⟨w10.heap.size, 0, none⟩) 2 33 (fun i => cellsC (exA i))) := Lib.hid (by
    have := SArr.ofCells (n := 2) (fun i => lenC (exA i)) (heap_new w10 (.cells (flatS (fun i => cellsC (exA i)) 2).toArray 45)) (fun _ _ => rfl)
    rw [HCA.out]
    exact this.more (by simp))
  obtain ⟨v3, hv3⟩ : ∃ v3, v3 = w10.alloc (.cells (flatS cA 2).toArray 45) := ⟨_, rfl⟩
  have B_w_v3 : Hid (Below w.heap.size w v3) := Lib.hid (by rw [hv3]; exact B_w_10.out.alloc B_w_10.out.size _)
  have B_w4_v3 : Hid (Below w4.heap.size w4 v3) := Lib.hid (by rw [hv3]; exact B_w4_10.out.alloc B_w4_10.out.size _)
  have B_w8_v3 : Hid (Below w8.heap.size w8 v3) := Lib.hid (by rw [hv3]; exact B_w8_10.out.alloc B_w8_10.out.size _)
  obtain ⟨s3, hs3⟩ : ∃ s3, s3 = w10.heap.size := ⟨_, rfl⟩
  rw [← hs3, ← hv3] at SA3
  rw [← hs3, ← hv3]
  clear hv3 hs3
  refine (sameC exA A1 _ 2 c1 2 _ _ v3 (by omega) (SV.out.below B_w4_v3.out (Nat.le_refl _)) SA3.out).mono ?_
  rintro e d3 ⟨rfl, m3, hd⟩
  have B_w_d3 : Hid (Below w.heap.size w d3) := Lib.hid (by rw [hd]; exact below_drewN B_w_v3.out _)
  have B_w4_d3 : Hid (Below w4.heap.size w4 d3) := Lib.hid (by rw [hd]; exact below_drewN B_w4_v3.out _)
  have B_w8_d3 : Hid (Below w8.heap.size w8 d3) := Lib.hid (by rw [hd]; exact below_drewN B_w8_v3.out _)
  clear hd SA3
  go_wp2_with fail
  refine (HCD0.out _).mono ?_
  rintro e w11 ⟨rfl, hb⟩
  have B_w_11 : Hid (Below w.heap.size w w11) := Lib.hid (B_w_d3.out.trans (hb.mono B_w_d3.out.size))
  have B_w4_11 : Hid (Below w4.heap.size w4 w11) := Lib.hid (B_w4_d3.out.trans (hb.mono B_w4_d3.out.size))
  have B_w8_11 : Hid (Below w8.heap.size w8 w11) := Lib.hid (B_w8_d3.out.trans (hb.mono B_w8_d3.out.size))
  clear hb
  go_wp2_with fail
  refine (HCD1.out _).mono ?_
  rintro e w12 ⟨rfl, hb⟩
  have B_w_12 : Hid (Below w.heap.size w w12) := Lib.hid (B_w_11.out.trans (hb.mono B_w_11.out.size))
  have B_w4_12 : Hid (Below w4.heap.size w4 w12) := Lib.hid (B_w4_11.out.trans (hb.mono B_w4_11.out.size))
  have B_w8_12 : Hid (Below w8.heap.size w8 w12) := Lib.hid (B_w8_11.out.trans (hb.mono B_w8_11.out.size))
  clear hb
  go_wp2_with (refine wpList_sliceK rfl 25 45 2 33 #[(0, .tmp 25), (1, .tmp 26)] rfl cD (by simp only [List.map_toArray, List.map_cons, List.map_nil]; rfl) i0 (.agg zC.toArray) Try.underlying25 HI.out.1 HI.out.2.1 HI.out.2.2 HL2D.out (by omega) (by omega) (by omega) ?_)
  have SA4 : Hid (SArr (w12.alloc (.cells (flatS cD 2).toArray 45)) (w12.alloc (.cells (flatS cD 2).toArray 45)).heap.size (some ⟨w12.heap.size, 0, none⟩) 2 33 (fun i => cellsC (exD i))) := Lib.hid (by
    have := SArr.ofCells (n := 2) (fun i => lenC (exD i)) (heap_new w12 (.cells (flatS (fun i => cellsC (exD i)) 2).toArray 45)) (fun _ _ => rfl)
    rw [HCD.out]
    exact this.more (by simp))
  obtain ⟨v4, hv4⟩ : ∃ v4, v4 = w12.alloc (.cells (flatS cD 2).toArray 45) := ⟨_, rfl⟩
  have B_w_v4 : Hid (Below w.heap.size w v4) := Lib.hid (by rw [hv4]; exact B_w_12.out.alloc B_w_12.out.size _)
  have B_w4_v4 : Hid (Below w4.heap.size w4 v4) := Lib.hid (by rw [hv4]; exact B_w4_12.out.alloc B_w4_12.out.size _)
  have B_w8_v4 : Hid (Below w8.heap.size w8 v4) := Lib.hid (by rw [hv4]; exact B_w8_12.out.alloc B_w8_12.out.size _)
  obtain ⟨s4, hs4⟩ : ∃ s4, s4 = w12.heap.size := ⟨_, rfl⟩
  rw [← hs4, ← hv4] at SA4
  rw [← hs4, ← hv4]
  clear hv4 hs4
  refine (sameC exD A2 _ 2 c2 2 _ _ v4 (by omega) (SD.out.below B_w8_v4.out (Nat.le_refl _)) SA4.out).mono ?_
  rintro e d4 ⟨rfl, m4, hd⟩
  have B_w_d4 : Hid (Below w.heap.size w d4) := Lib.hid (by rw [hd]; exact below_drewN B_w_v4.out _)
  have B_w4_d4 : Hid (Below w4.heap.size w4 d4) := Lib.hid (by rw [hd]; exact below_drewN B_w4_v4.out _)
  have B_w8_d4 : Hid (Below w8.heap.size w8 d4) := Lib.hid (by rw [hd]; exact below_drewN B_w8_v4.out _)
  clear hd
  go_wp2_with fail
  go_ret
  exact ⟨rfl, B_w_d4.out⟩
end Go.Proofs.Ytblfkngdieffiaa
