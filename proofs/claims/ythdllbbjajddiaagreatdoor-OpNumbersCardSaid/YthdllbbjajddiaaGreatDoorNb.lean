/- Layer 25 (op): the ops of OpNumbers, in plain Lean. -/
import Derived.Test.YthdllbbjajddiaaGreatDoorBk
import Derived.Test.YthdllbbjajddiaaGreatDoorLg
set_option linter.all false
namespace Go.Proofs.YthdllbbjajddiaaGreatDoor
open Go.RowKit
def keyN (i : Nat) : List Int := (i : Int) :: (List.replicate 30 0 ++ [7])
theorem keyN_ok {i : Nat} (h : i < 256) : KeyOk 32 (keyN i) := ⟨by simp [keyN], fun x hx => by
  unfold keyN at hx
  rcases List.mem_cons.1 hx with rfl | hx
  · omega
  · rcases List.mem_append.1 hx with hx | hx
    · rw [List.eq_of_mem_replicate hx]; omega
    · simp at hx; omega⟩
def frN (i : Nat) : Fr := ⟨keyN i, 262144 - i, 1024 - i, 1 + (i % 16 : Nat), 0⟩
def puN (i : Nat) : Pu := ⟨511 - 2 * (18 - i), keyN i, (i % 16 : Nat), 255 - i⟩
theorem frN_ok {i : Nat} (h : i < 18) : OkFr (frN i) := ⟨keyN_ok (by omega), wf_i64 (by simp only [frN]; omega), wf_i64 (by simp only [frN]; omega), wf_i64 (by simp only [frN]; omega), wf00⟩
theorem puN_ok {i : Nat} (h : i < 18) : OkPu (puN i) := ⟨wf_i64 (by simp only [puN]; omega), keyN_ok (by omega), wf_i64 (by simp only [puN]; omega), wf_i64 (by simp only [puN]; omega)⟩
def elFN (i : Nat) : ElF := if h : i < 18 then ⟨frN i, frN_ok h⟩ else default
def elPN (i : Nat) : ElP := if h : i < 18 then ⟨puN i, puN_ok h⟩ else default
theorem elFN_at {i : Nat} (h : i < 18) : (elFN i).1 = frN i := by unfold elFN; rw [dif_pos h]
theorem elPN_at {i : Nat} (h : i < 18) : (elPN i).1 = puN i := by unfold elPN; rw [dif_pos h]
/-- The units, one of them said twice. -/
def elPT (i : Nat) : ElP := if i = 4 then ⟨⟨(elPN 3).1.x, (elPN 4).1.k, (elPN 4).1.o, (elPN 4).1.m⟩, ⟨(elPN 3).2.x, (elPN 4).2.key, (elPN 4).2.o, (elPN 4).2.m⟩⟩ else elPN i
def kdN (i : Nat) : Int := match i with | 0 => 1 | 1 => 1 | 2 => 1 | 3 => 2 | 4 => 3 | 5 => 4 | _ => 5
def xN (i : Nat) : Int := if i = 3 then 4096 else 0
def nN (i : Nat) : Int := if i = 3 then 1 else 0
def sN (i : Nat) : Int := match i with | 4 => 1 | 5 => 1073741824 | 6 => 77 | _ => 0
def mN (i : Nat) : Nat := match i with | 0 => 18 | 1 => 9 | _ => 0
set_option maxRecDepth 100000 in
theorem right18 : rightB (opR 1 0 0 0 elFN 18 elPN 18) = true := by kernel_rfl
set_option maxRecDepth 100000 in
theorem right9 : rightB (opR 1 0 0 0 elFN 9 elPN 9) = true := by kernel_rfl
set_option maxRecDepth 100000 in
theorem rightN {i : Nat} (h : i < 7) : rightB (opR (kdN i) (xN i) (nN i) (sN i) elFN (mN i) elPN (mN i)) = true := by
  match i, h with
  | 0, _ => exact right18
  | 1, _ => exact right9
  | 2, _ => exact (show rightB (opR 1 0 0 0 elFN 0 elPN 0) = true by kernel_rfl)
  | 3, _ => exact (show rightB (opR 2 4096 1 0 elFN 0 elPN 0) = true by kernel_rfl)
  | 4, _ => exact (show rightB (opR 3 0 0 1 elFN 0 elPN 0) = true by kernel_rfl)
  | 5, _ => exact (show rightB (opR 4 0 0 1073741824 elFN 0 elPN 0) = true by kernel_rfl)
  | 6, _ => exact (show rightB (opR 5 0 0 77 elFN 0 elPN 0) = true by kernel_rfl)
set_option maxRecDepth 100000 in
theorem rightT : rightB (opR 1 0 0 0 elFN 9 elPT 9) = false := by kernel_rfl
set_option maxRecDepth 100000 in
theorem len18 : (enc (opR 1 0 0 0 elFN 18 elPN 18)).length = 1353 := by kernel_rfl
theorem kdN_bd (i : Nat) : 0 ≤ kdN i ∧ kdN i < 256 := by
  unfold kdN
  split <;> omega
theorem mN_bd (i : Nat) : mN i ≤ 18 := by
  unfold mN
  split <;> omega
end Go.Proofs.YthdllbbjajddiaaGreatDoor
namespace Go.Proofs.YthdllbbjajddiaaGreatDoor
open Go.RowKit Go.Maps Go.WideMaps
/-- A cell of a row that the call owns is set. -/
theorem own_set1 {w : World} {base g n cap o size : Nat} {e : TypeId} {xs : List Value} {v : Value} (h : w.ownsRow base e size (.slice (some ⟨g, 0, none⟩) n cap) n xs) (ho : o < n * size) (hv : v.oneCell' = true) : (w.setCell ⟨g, o, none⟩ v).ownsRow base e size (.slice (some ⟨g, 0, none⟩) n cap) n (xs.set o v) := by
  refine ⟨by rw [List.length_set]; exact h.1, ?_⟩
  rcases h.2 with ⟨h1, _⟩ | ⟨g2, cap2, cur, h1, h2, h3, h4, h5, h6, h7⟩
  · simp at h1
  · injection h1 with e1 e2 e3
    injection e1 with e1
    injection e1 with e1
    subst e1 e3
    refine .inr ⟨g, cap, cur.setIfInBounds o v, rfl, h2, heap_setCell_same w g o _ _ _ h3, h4, h5, by rw [Array.size_setIfInBounds]; exact h6, ?_⟩
    rw [Array.toList_setIfInBounds, List.take_set, h7]
theorem own_at0 {w : World} {base n cap size : Nat} {e : TypeId} {A : Option Addr} {xs : List Value} (h : w.ownsRow base e size (.slice A n cap) n xs) (hn : 0 < n) : ∃ g, A = some ⟨g, 0, none⟩ := row_someS h (Nat.lt_of_lt_of_le hn (row_le_capS h))
/-- An op by value, its rows owned by the call. -/
structure Own2 (W w : World) (A1 : Option Addr) (n1 c1 : Nat) (I : Nat → ElF) (A2 : Option Addr) (n2 c2 : Nat) (P : Nat → ElP) : Prop where
  r1 : w.ownsRow W.heap.size 53 36 (.slice A1 n1 c1) n1 (flatS (fun i => cellsF (I i)) n1)
  r2 : w.ownsRow W.heap.size 48 35 (.slice A2 n2 c2) n2 (flatS (fun i => cellsP (P i)) n2)
  below : Below W.heap.size W w
set_option maxRecDepth 100000 in
set_option maxHeartbeats 2000000 in
theorem copyF (I : Nat → ElF) (A : Option Addr) (n c : Nat) (w : World) (hn : n ≤ 1000) (ha : SArr w w.heap.size A n 36 fun i => cellsF (I i)) (hz : A = none → n = 0 ∧ c = 0) :
    Calls Tryz.prog 39 #[.slice A n c] w fun e w' => ∃ A' c', e = .returned (.slice A' n c') ∧ w'.ownsRow w.heap.size 53 36 (.slice A' n c') n (flatS (fun i => cellsF (I i)) n) ∧ Below w.heap.size w w' := by
  obtain ⟨i0, hi, hz0, hz1, hz2⟩ := infoParts infoFz
  have HI := Lib.hid (And.intro hi (And.intro hz0 (And.intro hz1 hz2)))
  have HN := Lib.hid (ha.cellsAt (wideF I))
  have HZ := Lib.hid hz
  have HL : Hid ((flatS (fun i => cellsF (I i)) n).length = n * 36) := Lib.hid (flatS_len (wideF I) n)
  have HO := Lib.hid (onesF I n)
  have HM : Hid (0 + n ≤ maxLen) := Lib.hid (by unfold maxLen; omega)
  have HM2 : Hid ((0 + n) * 64 ≤ 140737488355328) := Lib.hid (by omega)
  have OW : Hid (w.ownsRow w.heap.size 53 36 (.slice none 0 0) 0 []) := Lib.hid (World.ownsRow_nil _ _ _ _)
  clear hi hz0 hz1 hz2 ha hz
  go_enter Tryz.func39, Tryz.ntmps39
  go_wp2_with (refine wpList_append_any rfl (.tmp 4) (.tmp 5) 23 rfl w.heap.size 53 i0 (.agg zF.toArray) 36 64 Tryz.underlying23 HI.out.1 HI.out.2.1 HI.out.2.2.1 HI.out.2.2.2 rfl (by decide) (.slice none 0 0) 0 [] rfl OW.out A n c (flatS (fun i => cellsF (I i)) n) rfl HZ.out HL.out HN.out HO.out HM.out HM2.out (Nat.le_refl _) ?_; intro v5 w5 ho5 hg5)
  rw [Nat.zero_add, List.nil_append] at ho5
  have B5 := Lib.hid ((Below.refl w.heap.size w).grown hg5 (Nat.le_refl _) (fun k e => by cases e))
  obtain ⟨A5, c5, rfl⟩ := row_shapeS ho5
  have O5 := Lib.hid ho5
  clear hg5 ho5
  go_ret
  exact ⟨A5, c5, rfl, O5.out, B5.out⟩
set_option maxRecDepth 100000 in
set_option maxHeartbeats 2000000 in
theorem copyP (I : Nat → ElP) (A : Option Addr) (n c : Nat) (w : World) (hn : n ≤ 1000) (ha : SArr w w.heap.size A n 35 fun i => cellsP (I i)) (hz : A = none → n = 0 ∧ c = 0) :
    Calls Tryz.prog 40 #[.slice A n c] w fun e w' => ∃ A' c', e = .returned (.slice A' n c') ∧ w'.ownsRow w.heap.size 48 35 (.slice A' n c') n (flatS (fun i => cellsP (I i)) n) ∧ Below w.heap.size w w' := by
  obtain ⟨i0, hi, hz0, hz1, hz2⟩ := infoParts infoPz
  have HI := Lib.hid (And.intro hi (And.intro hz0 (And.intro hz1 hz2)))
  have HN := Lib.hid (ha.cellsAt (wideP I))
  have HZ := Lib.hid hz
  have HL : Hid ((flatS (fun i => cellsP (I i)) n).length = n * 35) := Lib.hid (flatS_len (wideP I) n)
  have HO := Lib.hid (onesP I n)
  have HM : Hid (0 + n ≤ maxLen) := Lib.hid (by unfold maxLen; omega)
  have HM2 : Hid ((0 + n) * 56 ≤ 140737488355328) := Lib.hid (by omega)
  have OW : Hid (w.ownsRow w.heap.size 48 35 (.slice none 0 0) 0 []) := Lib.hid (World.ownsRow_nil _ _ _ _)
  clear hi hz0 hz1 hz2 ha hz
  go_enter Tryz.func40, Tryz.ntmps40
  go_wp2_with (refine wpList_append_any rfl (.tmp 4) (.tmp 5) 24 rfl w.heap.size 48 i0 (.agg zP.toArray) 35 56 Tryz.underlying24 HI.out.1 HI.out.2.1 HI.out.2.2.1 HI.out.2.2.2 rfl (by decide) (.slice none 0 0) 0 [] rfl OW.out A n c (flatS (fun i => cellsP (I i)) n) rfl HZ.out HL.out HN.out HO.out HM.out HM2.out (Nat.le_refl _) ?_; intro v5 w5 ho5 hg5)
  rw [Nat.zero_add, List.nil_append] at ho5
  have B5 := Lib.hid ((Below.refl w.heap.size w).grown hg5 (Nat.le_refl _) (fun k e => by cases e))
  obtain ⟨A5, c5, rfl⟩ := row_shapeS ho5
  have O5 := Lib.hid ho5
  clear hg5 ho5
  go_ret
  exact ⟨A5, c5, rfl, O5.out, B5.out⟩
set_option maxRecDepth 100000 in
set_option maxHeartbeats 2000000 in
theorem copyOp (I : Nat → ElF) (P : Nat → ElP) (kd x n s : Int) (A1 : Option Addr) (n1 c1 : Nat) (A2 : Option Addr) (n2 c2 : Nat) (W : World) (hn1 : n1 ≤ 500) (hn2 : n2 ≤ 500)
    (S1 : SArr W W.heap.size A1 n1 36 fun i => cellsF (I i)) (S2 : SArr W W.heap.size A2 n2 35 fun i => cellsP (P i)) (Z1 : A1 = none → n1 = 0 ∧ c1 = 0) (Z2 : A2 = none → n2 = 0 ∧ c2 = 0) :
    Calls Tryz.prog 16 #[opV kd x n s A1 n1 c1 A2 n2 c2] W fun e W' => ∃ A3 c3 A4 c4, e = .returned (opV kd x n s A3 n1 c3 A4 n2 c4) ∧ Own2 W W' A3 n1 c3 I A4 n2 c4 P := by
  have S1 := Lib.hid S1
  have S2 := Lib.hid S2
  have Z1 := Lib.hid Z1
  have Z2 := Lib.hid Z2
  unfold opV
  go_enter Tryz.func16, Tryz.ntmps16
  go_upto_region 1 with (refine wpList_laid rfl 26 rfl zOp (zeroVOp _) ?_)
  obtain ⟨w0, hw0⟩ : ∃ w1, w1 = W.alloc (.cells #[.int .u8 kd, .int .i64 x, .int .i64 n, .int .i64 s, .slice A1 n1 c1, .slice A2 n2 c2] 26) := ⟨_, rfl⟩
  rw [← hw0]
  obtain ⟨w1, hw1⟩ : ∃ w1, w1 = w0.alloc (.cells zOp.toArray 26) := ⟨_, rfl⟩
  rw [← hw1]
  obtain ⟨p, hp⟩ : ∃ p, p = W.heap.size := ⟨_, rfl⟩
  have Q0 : w0.heap[W.heap.size]? = some (.cells (opL kd x n s A1 n1 c1 A2 n2 c2).toArray 26 (0, 0)) := by rw [hw0]; exact heap_new W _
  have hs0 : w0.heap.size = W.heap.size + 1 := by rw [hw0]; simp
  have Q : Hid (w1.heap[W.heap.size]? = some (.cells (opL kd x n s A1 n1 c1 A2 n2 c2).toArray 26 (0, 0))) := Lib.hid (by rw [hw1]; exact heap_old Q0)
  have R : Hid (w1.heap[w0.heap.size]? = some (.cells zOp.toArray 26 (0, 0))) := Lib.hid (by rw [hw1]; exact heap_new w0 _)
  have B : Hid (Below W.heap.size W w1) := Lib.hid (by rw [hw1]; exact ((hw0 ▸ (Below.refl _ _).alloc (Nat.le_refl _) _ : Below W.heap.size W w0)).alloc (by omega) _)
  rw [← hp] at Q ⊢
  have HP := Lib.hid hp
  obtain ⟨q, hq⟩ : ∃ q, q = w0.heap.size := ⟨_, rfl⟩
  rw [← hq] at R ⊢
  have HQ : Hid (q = p + 1) := Lib.hid (by omega)
  clear hw0 hw1 hp hq hs0 Q0
  have c4 : w1.cell? ⟨p, 4, none⟩ = some (.slice A1 n1 c1) := block_cell Q.out 4 _ rfl
  go_wp2_with fail
  refine (copyF I A1 n1 c1 w1 (by omega) ((S1.out.below B.out (Nat.le_refl _)).more B.out.size) Z1.out).mono ?_
  rintro e w2 ⟨A3, c3, rfl, h1, b2⟩
  have Q := Lib.hid ((b2.block _ (heap_lt Q.out)).trans Q.out)
  have R := Lib.hid ((b2.block _ (heap_lt R.out)).trans R.out)
  have G1 := Lib.hid (row_more h1 B.out.size)
  have B := Lib.hid (B.out.trans (b2.mono B.out.size))
  clear c4 b2 h1
  have c4 := block_cell Q.out 4 _ rfl
  have f4 := frozen_of_row w2 p 4 _ _ Q.out
  go_upto_region 2 with fail
  obtain ⟨w3, hw3⟩ : ∃ w3, w3 = w2.setCell ⟨p, 4, none⟩ (.slice A3 n1 c3) := ⟨_, rfl⟩
  rw [← hw3]
  have K3 : Hid (Keeps (fun k => k = p) w2 w3) := Lib.hid (by rw [hw3]; exact Keeps.setCell _ w2 ⟨p, 4, none⟩ _ rfl)
  have Q0 := Q
  have Q : Hid (w3.heap[p]? = some (.cells (opL kd x n s A3 n1 c3 A2 n2 c2).toArray 26 (0, 0))) := Lib.hid (by rw [hw3]; exact heap_setCell_same w2 p 4 _ _ _ Q.out)
  have R := Lib.hid (K3.out.heap R.out (by have := HQ.out; omega))
  have G1 := Lib.hid (K3.out.row G1.out (fun k h1 e => row_ne_cells G1.out Q0.out (by decide) (e ▸ h1)))
  have B := Lib.hid (B.out.trans (K3.out.below (fun k e => by have := HP.out; omega) B.out.size))
  clear hw3 K3 c4 f4 Q0
  have c5 := block_cell Q.out 5 _ rfl
  go_wp2_with fail
  refine (copyP P A2 n2 c2 w3 (by omega) ((S2.out.below B.out (Nat.le_refl _)).more B.out.size) Z2.out).mono ?_
  rintro e w4 ⟨A4, c4', rfl, h2, b4⟩
  have Q := Lib.hid ((b4.block _ (heap_lt Q.out)).trans Q.out)
  have R := Lib.hid ((b4.block _ (heap_lt R.out)).trans R.out)
  have G1 := Lib.hid ((Keeps.fresh (S := fun _ => False) b4).row G1.out fun _ _ h => h)
  have G2 := Lib.hid (row_more h2 B.out.size)
  have B := Lib.hid (B.out.trans (b4.mono B.out.size))
  clear c5 b4 h2
  have c5 := block_cell Q.out 5 _ rfl
  have f5 := frozen_of_row w4 p 5 _ _ Q.out
  go_upto_region 3 with fail
  obtain ⟨w5, hw5⟩ : ∃ w5, w5 = w4.setCell ⟨p, 5, none⟩ (.slice A4 n2 c4') := ⟨_, rfl⟩
  rw [← hw5]
  have K5 : Hid (Keeps (fun k => k = p) w4 w5) := Lib.hid (by rw [hw5]; exact Keeps.setCell _ w4 ⟨p, 5, none⟩ _ rfl)
  have Q0 := Q
  have Q : Hid (w5.heap[p]? = some (.cells (opL kd x n s A3 n1 c3 A4 n2 c4').toArray 26 (0, 0))) := Lib.hid (by rw [hw5]; exact heap_setCell_same w4 p 5 _ _ _ Q.out)
  have R := Lib.hid (K5.out.heap R.out (by have := HQ.out; omega))
  have G1 := Lib.hid (K5.out.row G1.out (fun k h1 e => row_ne_cells G1.out Q0.out (by decide) (e ▸ h1)))
  have G2 := Lib.hid (K5.out.row G2.out (fun k h1 e => row_ne_cells G2.out Q0.out (by decide) (e ▸ h1)))
  have B := Lib.hid (B.out.trans (K5.out.below (fun k e => by have := HP.out; omega) B.out.size))
  clear hw5 K5 c5 f5 Q0
  have RA : Hid (w5.rangeAt p 0 (opL kd x n s A3 n1 c3 A4 n2 c4')) := Lib.hid (range_of Q.out)
  have OO := Lib.hid (opL_one kd x n s A3 n1 c3 A4 n2 c4')
  have SPL : Hid (splice zOp 0 (opL kd x n s A3 n1 c3 A4 n2 c4') = (opL kd x n s A3 n1 c3 A4 n2 c4')) := Lib.hid (splice_whole _ _ rfl)
  go_wp2_with (first | (refine wpList_load_midG rfl 26 (.tmp 1) rfl p 0 rfl (opL kd x n s A3 n1 c3 A4 n2 c4') _ RA.out Tryz.underlying26 rfl sizeOp ?_) | (refine wpList_store_segK rfl 26 (.tmp 2) (.tmp 11) rfl q 0 rfl (opL kd x n s A3 n1 c3 A4 n2 c4') rfl zOp 26 R.out sizeOp (Nat.le_refl _) OO.out rfl ?_; intro w9 h9 k9 s9))
  rw [SPL.out] at h9
  have hz : w9.rangeAt q 0 (opL kd x n s A3 n1 c3 A4 n2 c4') := fun j v hj => block_cell h9 _ v (by rw [Nat.zero_add]; simpa using hj)
  refine bodyPost_ret (results_cell_one rfl _ _ q _ _ rfl hz Tryz.underlying26 rfl sizeOp) rfl ?_
  exact ⟨A3, c3, A4, c4', rfl, ⟨k9.row G1.out (fun k h1 e => row_ne_cells G1.out R.out (by decide) (e ▸ h1)), k9.row G2.out (fun k h1 e => row_ne_cells G2.out R.out (by decide) (e ▸ h1)), B.out.trans (k9.below (fun k e => by have e : k = q := e; have := HQ.out; have := HP.out; omega) B.out.size)⟩⟩
theorem buildKeyN (x : Int) (u : World) : BuildRun Tryz.prog 44 #[(0, .int .u8 x), (31, .int .u8 7)] u (kv (x :: (List.replicate 30 0 ++ [7]))) := ⟨by kernel_rfl⟩
set_option maxRecDepth 100000 in
set_option maxHeartbeats 4000000 in
theorem full4 (less m : Nat) (hlm : less + m = 18) (W : World) :
    Calls Tryz.prog 4 #[.int .i64 less] W fun e W' => ∃ A1 c1 A2 c2, e = .returned (opV 1 0 0 0 A1 m c1 A2 m c2) ∧ Own2 W W' A1 m c1 elFN A2 m c2 elPN := by
  go_enter Tryz.func4, Tryz.ntmps4
  go_upto_region 1 with (refine wpList_laid rfl 26 rfl zOp (zeroVOp _) ?_)
  obtain ⟨w1, hw1⟩ : ∃ w1, w1 = W.alloc (.cells zOp.toArray 26) := ⟨_, rfl⟩
  have B1 : Hid (Below W.heap.size W w1) := Lib.hid (by rw [hw1]; exact (Below.refl _ _).alloc (Nat.le_refl _) _)
  have Z1 : Hid (w1.heap[W.heap.size]? = some (.cells zOp.toArray 26 (0, 0))) := Lib.hid (by rw [hw1]; exact heap_new W _)
  rw [← hw1]
  obtain ⟨q, hq⟩ : ∃ q, q = W.heap.size := ⟨_, rfl⟩
  rw [← hq] at Z1 ⊢
  have HQ : Hid (W.heap.size = q) := Lib.hid hq.symm
  clear hw1 hq
  have OO := Lib.hid (opL_one 1 0 0 0 none 0 0 none 0 0)
  go_upto_region 2 with (first | (refine wpList_buildG rfl 26 [(0, .const (.int .u8 1))] rfl [(0, .int .u8 1)] rfl _ (buildOpK 1 _) ?_) | (refine wpList_boxed rfl 26 3 rfl rfl zOp (zeroVOp _) (.tmp 5) rfl rfl rfl (opL 1 0 0 0 none 0 0 none 0 0) rfl rfl sizeOp rfl OO.out ?_; intro w3 hb3 hh3 hs3))
  obtain ⟨p, hp⟩ : ∃ p, p = w1.heap.size := ⟨_, rfl⟩
  rw [← hp] at hh3 ⊢
  have HPQ : Hid (q < p) := Lib.hid (by rw [hp]; exact heap_lt Z1.out)
  have HF : Hid (Half W w3 p q ⟨1, 0, 0, 0, [], []⟩ none 0 0 elFN none 0 0 elPN) := Lib.hid ⟨hh3, (hb3.block q (heap_lt Z1.out)).trans Z1.out, World.ownsRow_nil _ _ _ _, World.ownsRow_nil _ _ _ _, B1.out.trans (hb3.mono B1.out.size)⟩
  clear hb3 hs3 hh3 hp Z1 B1
  have hm18 : IntKind.i64.wrap (18 - (less : Int)) = (m : Int) := by rw [IntWalk.i64_in _ (by omega)]; omega
  have hm19 : m ≤ 18 := by omega
  have HLM := Lib.hid hlm
  clear hlm
  go_wp2_with fail
  go_loopw [4] (fun i wr => ∃ (k : Nat) (A1 : Option Addr) (c1 : Nat) (A2 : Option Addr) (c2 : Nat), k ≤ m ∧ i = .int .i64 k ∧ Half W wr p q ⟨1, 0, 0, 0, [], []⟩ A1 k c1 elFN A2 k c2 elPN) (fun i _ => m - (intOf i).toNat)
  case atStart => exact ⟨0, none, 0, none, 0, Nat.zero_le _, rfl, HF.out⟩
  case round =>
    clear HF
    obtain ⟨k, A1, c1, A2, c2, hk, rfl, hf⟩ := hrel
    have HF := Lib.hid hf
    clear hf
    by_cases hlt : k < m
    · have k1 : k < 18 := by omega
      have i2 : (k : Int) < m := by omega
      have hu : IntKind.u8.wrap (k : Int) = (k : Int) := u8w (by omega)
      have h1 : IntKind.i64.wrap (262144 - (k : Int)) = 262144 - (k : Int) := IntWalk.i64_in _ (by omega)
      have h2 : IntKind.i64.wrap (1024 - (k : Int)) = 1024 - (k : Int) := IntWalk.i64_in _ (by omega)
      have h3 : (k : Int).tmod 16 = ((k % 16 : Nat) : Int) := rfl
      have hr16 : k % 16 < 16 := Nat.mod_lt _ (by decide)
      obtain ⟨r, hr⟩ : ∃ r, r = k % 16 := ⟨_, rfl⟩
      rw [← hr] at h3 hr16
      have h4 : IntKind.i64.wrap (1 + (r : Int)) = 1 + (r : Int) := IntWalk.i64_in _ (by omega)
      have h4' : IntKind.i64.wrap (r : Int) = (r : Int) := IntWalk.i64_in _ (by omega)
      have h5 : IntKind.i64.wrap (18 - (k : Int)) = 18 - (k : Int) := IntWalk.i64_in _ (by omega)
      have h6 : IntKind.i64.wrap (2 * (18 - (k : Int))) = 2 * (18 - (k : Int)) := IntWalk.i64_in _ (by omega)
      have h7 : IntKind.i64.wrap (511 - 2 * (18 - (k : Int))) = 511 - 2 * (18 - (k : Int)) := IntWalk.i64_in _ (by omega)
      have h8 : IntKind.i64.wrap (255 - (k : Int)) = 255 - (k : Int) := IntWalk.i64_in _ (by omega)
      have HR := Lib.hid hr
      clear hr
      obtain ⟨cs, hcs⟩ : ∃ cs, cs = cellsF (elFN k) := ⟨_, rfl⟩
      have HC := Lib.hid hcs
      have HCS : Hid (frC ⟨keyN k, 262144 - k, 1024 - k, 1 + (r : Int), 0⟩ = cs) := Lib.hid (by rw [hcs]; unfold cellsF; rw [elFN_at k1, HR.out]; rfl)
      have HFL : Hid (flatS (fun i => cellsF (elFN i)) k ++ cs = flatS (fun i => cellsF (elFN i)) (k + 1)) := Lib.hid (by rw [hcs]; rfl)
      have HKL : Hid ((keyN k).length = 32) := Lib.hid (keyN_ok (by omega)).len
      have BK := Lib.hid (fun w => buildKeyN (k : Int) w)
      have BF : Hid (∀ w, BuildRun Tryz.prog 53 #[(0, kv (keyN k)), (1, .agg #[.int .i64 (262144 - k), .int .i64 (1024 - k), .int .i64 (1 + (r : Int)), .int .i64 0])] w (.agg cs.toArray)) := Lib.hid fun w => HCS.out ▸ buildFr _ _ _ _ HKL.out w
      clear hcs
      obtain ⟨i0, hi, hz0, hz1, hz2⟩ := infoParts infoFz
      have HI := Lib.hid (And.intro hi (And.intro hz0 (And.intro hz1 hz2)))
      have HL : Hid (cs.length = 36) := Lib.hid (by rw [HC.out]; exact lenF _)
      have HON : Hid (∀ u ∈ cs, u.oneCell' = true) := Lib.hid (by rw [HC.out]; exact oneF _)
      obtain ⟨wa, hwa⟩ : ∃ w3, w3 = (wr).alloc (.cells cs.toArray 53) := ⟨_, rfl⟩
      have KA : Hid (Keeps (fun _ => False) wr wa) := Lib.hid (by rw [hwa]; exact Keeps.alloc _ _ _)
      have BA : Hid (Below W.heap.size W wa) := Lib.hid (by rw [hwa]; exact HF.out.below.alloc HF.out.below.size _)
      have RX : Hid (wa.ownsRow W.heap.size 53 36 (.slice A1 k c1) k (flatS (fun i => cellsF (elFN i)) k)) := Lib.hid (KA.out.row HF.out.r1 fun _ _ h => h)
      have CA : Hid (∀ ad, (some ⟨(wr).heap.size, 0, none⟩ : Option Addr) = some ad → ∀ j u, cs[j]? = some u → wa.cell? (ad.add j) = some u) := Lib.hid fun ad e j u hu => by
        cases e
        rw [Go.WideShapes.add_plain, Nat.zero_add, hwa]
        exact block_cell (heap_new (wr) _) j u (by simpa using hu)
      have PA : Hid (wa.heap[p]? = some (.cells (opL 1 0 0 0 A1 k c1 A2 k c2).toArray 26 (0, 0))) := Lib.hid (KA.out.heap HF.out.at_ fun h => h)
      have hwa' := hwa.symm
      have NN : Hid ((some ⟨(wr).heap.size, 0, none⟩ : Option Addr) = none → (1 : Nat) = 0 ∧ (1 : Nat) = 0) := Lib.hid (fun h => by cases h)
      have L1 : Hid (k + 1 ≤ maxLen) := Lib.hid (by unfold maxLen; omega)
      have L2 : Hid ((k + 1) * 64 ≤ 140737488355328) := Lib.hid (by omega)
      have L4 : Hid (cs.length = 1 * 36) := Lib.hid (by rw [HL.out])
      have L5 : Hid (0 < cs.length) := Lib.hid (by rw [HL.out]; decide)
      have L6 : Hid (cs.length ≤ 2 ^ 24) := Lib.hid (by rw [HL.out]; decide)
      have L7 : Hid (i0.size = cs.length) := Lib.hid (by rw [HL.out]; exact HI.out.2.2.1)
      have ce0 := block_cell HF.out.at_ 4 _ rfl
      clear hwa hi hz0 hz1 hz2

      go_upto_region 5 with fail
      go_step
      repeat ((fail_if_success (refine wpList_buildG rfl 44 [(0, .tmp 15), (31, .const (.int .u8 7))] rfl [(0, .int .u8 k), (31, .int .u8 7)] rfl (kv (keyN k)) (BK.out _) ?_)); go_step)
      refine wpList_buildG rfl 44 [(0, .tmp 15), (31, .const (.int .u8 7))] rfl [(0, .int .u8 k), (31, .int .u8 7)] rfl (kv (keyN k)) (BK.out _) ?_
      try simp only [Act.put, List.setIfInBounds_toArray, List.set_cons_zero, List.set_cons_succ]
      repeat ((fail_if_success (refine wpList_buildG rfl 51 [(0, .tmp 18), (1, .tmp 20), (2, .tmp 23)] rfl [(0, .int .i64 (262144 - k)), (1, .int .i64 (1024 - k)), (2, .int .i64 (1 + (r : Int)))] rfl _ (buildPl _ _ _ _) ?_)); go_step)
      refine wpList_buildG rfl 51 [(0, .tmp 18), (1, .tmp 20), (2, .tmp 23)] rfl [(0, .int .i64 (262144 - k)), (1, .int .i64 (1024 - k)), (2, .int .i64 (1 + (r : Int)))] rfl _ (buildPl _ _ _ _) ?_
      try simp only [Act.put, List.setIfInBounds_toArray, List.set_cons_zero, List.set_cons_succ]
      repeat ((fail_if_success (refine wpList_buildG rfl 53 [(0, .tmp 16), (1, .tmp 24)] rfl [(0, kv (keyN k)), (1, .agg #[.int .i64 (262144 - k), .int .i64 (1024 - k), .int .i64 (1 + (r : Int)), .int .i64 0])] rfl (.agg cs.toArray) (BF.out _) ?_)); go_step)
      refine wpList_buildG rfl 53 [(0, .tmp 16), (1, .tmp 24)] rfl [(0, kv (keyN k)), (1, .agg #[.int .i64 (262144 - k), .int .i64 (1024 - k), .int .i64 (1 + (r : Int)), .int .i64 0])] rfl (.agg cs.toArray) (BF.out _) ?_
      try simp only [Act.put, List.setIfInBounds_toArray, List.set_cons_zero, List.set_cons_succ]
      repeat ((fail_if_success (refine wpList_slice1 rfl 23 53 (.tmp 25) rfl cs rfl i0 (.agg zF.toArray) Tryz.underlying23 HI.out.1 HI.out.2.1 L7.out L5.out L6.out ?_)); go_step)
      refine wpList_slice1 rfl 23 53 (.tmp 25) rfl cs rfl i0 (.agg zF.toArray) Tryz.underlying23 HI.out.1 HI.out.2.1 L7.out L5.out L6.out ?_
      rw [hwa']
      try simp only [Act.put, List.setIfInBounds_toArray, List.set_cons_zero, List.set_cons_succ]
      repeat ((fail_if_success (refine wpList_append_any rfl (.tmp 13) (.tmp 26) 23 rfl W.heap.size 53 i0 (.agg zF.toArray) 36 64 Tryz.underlying23 HI.out.1 HI.out.2.1 HI.out.2.2.1 HI.out.2.2.2 rfl (by decide) _ k _ rfl RX.out (some ⟨(wr).heap.size, 0, none⟩) 1 1 cs rfl NN.out L4.out CA.out HON.out L1.out L2.out BA.out.size ?_)); go_step)
      refine wpList_append_any rfl (.tmp 13) (.tmp 26) 23 rfl W.heap.size 53 i0 (.agg zF.toArray) 36 64 Tryz.underlying23 HI.out.1 HI.out.2.1 HI.out.2.2.1 HI.out.2.2.2 rfl (by decide) _ k _ rfl RX.out (some ⟨(wr).heap.size, 0, none⟩) 1 1 cs rfl NN.out L4.out CA.out HON.out L1.out L2.out BA.out.size ?_
      intro v' wb hown hgr
      obtain ⟨A3, c3, rfl⟩ := row_shapeS hown
      have PB := Lib.hid ((hgr.block p (heap_lt PA.out) (fun e => row_ne_cells RX.out PA.out (by decide) e.symm)).trans PA.out)
      have d4 := block_cell PB.out 4 _ rfl
      have f4 := frozen_of_row wb p 4 _ _ PB.out
      try simp only [Act.put, List.setIfInBounds_toArray, List.set_cons_zero, List.set_cons_succ]
      go_upto_region 6 with fail
      obtain ⟨wc, hwn⟩ : ∃ w9, w9 = wb.setCell ⟨p, 4, none⟩ (.slice A3 (k + 1) c3) := ⟨_, rfl⟩
      rw [← hwn]
      have KB : Hid (Keeps (fun x => (Value.slice A1 k c1).ownBlock = some x) wr wb) := Lib.hid ((KA.out.mono fun _ _ h => h.elim).trans (Keeps.grown hgr fun _ e => e) fun _ _ h => h)
      have KC : Hid (Keeps (fun x => x = p) wb wc) := Lib.hid (by rw [hwn]; exact Keeps.setCell (fun x => x = p) wb ⟨p, 4, none⟩ _ rfl)
      have RO := Lib.hid (KB.out.row HF.out.r2 fun x h1 h2 => own_ne HF.out.r2 HF.out.r1 (by decide) h1 h2)
      have QB := Lib.hid (KB.out.heap HF.out.res (fun e => row_ne_cells HF.out.r1 HF.out.res (by decide) e))
      rw [HFL.out] at hown
      have HF : Hid (Half W wc p q ⟨1, 0, 0, 0, [], []⟩ A3 (k + 1) c3 elFN A2 k c2 elPN) := Lib.hid ⟨by
          have h := set_blk (o := 4) (v := (.slice A3 (k + 1) c3)) PB.out
          rw [← hwn] at h
          exact h, KC.out.heap QB.out (by have := HPQ.out; omega), KC.out.row hown fun x h1 h2 => row_ne_cells hown PB.out (by decide) (h2 ▸ h1), KC.out.row RO.out fun x h1 h2 => row_ne_cells RO.out PB.out (by decide) (h2 ▸ h1), (HF.out.below.trans (KB.out.below (fun x hx => (HF.out.r1.lt x hx).1) HF.out.below.size)).trans (KC.out.below (fun x e => by have e : x = p := e; have := HPQ.out; have := HQ.out; omega) (Nat.le_trans HF.out.below.size KB.out.size))⟩
      clear hwn hown hgr PB d4 f4 ce0 KA BA RX CA PA hwa' NN L1 L2 L4 L5 L6 L7 KB KC RO QB HL HON HI HC
      clear HCS HFL BK BF
      obtain ⟨cs, hcs⟩ : ∃ cs, cs = cellsP (elPN k) := ⟨_, rfl⟩
      have HC := Lib.hid hcs
      have HCS : Hid (puC ⟨511 - 2 * (18 - k), keyN k, (r : Int), 255 - k⟩ = cs) := Lib.hid (by rw [hcs]; unfold cellsP; rw [elPN_at k1, HR.out]; rfl)
      have HFL : Hid (flatS (fun i => cellsP (elPN i)) k ++ cs = flatS (fun i => cellsP (elPN i)) (k + 1)) := Lib.hid (by rw [hcs]; rfl)
      have BK := Lib.hid (fun w => buildKeyN (k : Int) w)
      have BS := Lib.hid (fun w => buildSl (keyN k) (r : Int) (255 - k) HKL.out w)
      have BP : Hid (∀ w, BuildRun Tryz.prog 48 #[(0, .int .i64 (511 - 2 * (18 - k))), (1, .agg (slC (keyN k) (r : Int) (255 - k)).toArray)] w (.agg cs.toArray)) := Lib.hid fun w => HCS.out ▸ buildPu _ _ _ _ HKL.out w
      clear hcs
      obtain ⟨i0, hi, hz0, hz1, hz2⟩ := infoParts infoPz
      have HI := Lib.hid (And.intro hi (And.intro hz0 (And.intro hz1 hz2)))
      have HL : Hid (cs.length = 35) := Lib.hid (by rw [HC.out]; exact lenP _)
      have HON : Hid (∀ u ∈ cs, u.oneCell' = true) := Lib.hid (by rw [HC.out]; exact oneP _)
      obtain ⟨wa, hwa⟩ : ∃ w3, w3 = (wc).alloc (.cells cs.toArray 48) := ⟨_, rfl⟩
      have KA : Hid (Keeps (fun _ => False) wc wa) := Lib.hid (by rw [hwa]; exact Keeps.alloc _ _ _)
      have BA : Hid (Below W.heap.size W wa) := Lib.hid (by rw [hwa]; exact HF.out.below.alloc HF.out.below.size _)
      have RX : Hid (wa.ownsRow W.heap.size 48 35 (.slice A2 k c2) k (flatS (fun i => cellsP (elPN i)) k)) := Lib.hid (KA.out.row HF.out.r2 fun _ _ h => h)
      have CA : Hid (∀ ad, (some ⟨(wc).heap.size, 0, none⟩ : Option Addr) = some ad → ∀ j u, cs[j]? = some u → wa.cell? (ad.add j) = some u) := Lib.hid fun ad e j u hu => by
        cases e
        rw [Go.WideShapes.add_plain, Nat.zero_add, hwa]
        exact block_cell (heap_new (wc) _) j u (by simpa using hu)
      have PA : Hid (wa.heap[p]? = some (.cells (opL 1 0 0 0 A3 (k + 1) c3 A2 k c2).toArray 26 (0, 0))) := Lib.hid (KA.out.heap HF.out.at_ fun h => h)
      have hwa' := hwa.symm
      have NN : Hid ((some ⟨(wc).heap.size, 0, none⟩ : Option Addr) = none → (1 : Nat) = 0 ∧ (1 : Nat) = 0) := Lib.hid (fun h => by cases h)
      have L1 : Hid (k + 1 ≤ maxLen) := Lib.hid (by unfold maxLen; omega)
      have L2 : Hid ((k + 1) * 56 ≤ 140737488355328) := Lib.hid (by omega)
      have L4 : Hid (cs.length = 1 * 35) := Lib.hid (by rw [HL.out])
      have L5 : Hid (0 < cs.length) := Lib.hid (by rw [HL.out]; decide)
      have L6 : Hid (cs.length ≤ 2 ^ 24) := Lib.hid (by rw [HL.out]; decide)
      have L7 : Hid (i0.size = cs.length) := Lib.hid (by rw [HL.out]; exact HI.out.2.2.1)
      have ce0 := block_cell HF.out.at_ 5 _ rfl
      clear hwa hi hz0 hz1 hz2

      go_upto_region 6 with fail
      go_step
      repeat ((fail_if_success (refine wpList_buildG rfl 44 [(0, .tmp 36), (31, .const (.int .u8 7))] rfl [(0, .int .u8 k), (31, .int .u8 7)] rfl (kv (keyN k)) (BK.out _) ?_)); go_step)
      refine wpList_buildG rfl 44 [(0, .tmp 36), (31, .const (.int .u8 7))] rfl [(0, .int .u8 k), (31, .int .u8 7)] rfl (kv (keyN k)) (BK.out _) ?_
      try simp only [Act.put, List.setIfInBounds_toArray, List.set_cons_zero, List.set_cons_succ]
      repeat ((fail_if_success (refine wpList_buildG rfl 46 [(0, .tmp 37), (1, .tmp 39), (2, .tmp 41)] rfl [(0, kv (keyN k)), (1, .int .i64 (r : Int)), (2, .int .i64 (255 - k))] rfl _ (BS.out _) ?_)); go_step)
      refine wpList_buildG rfl 46 [(0, .tmp 37), (1, .tmp 39), (2, .tmp 41)] rfl [(0, kv (keyN k)), (1, .int .i64 (r : Int)), (2, .int .i64 (255 - k))] rfl _ (BS.out _) ?_
      try simp only [Act.put, List.setIfInBounds_toArray, List.set_cons_zero, List.set_cons_succ]
      repeat ((fail_if_success (refine wpList_buildG rfl 48 [(0, .tmp 34), (1, .tmp 42)] rfl [(0, .int .i64 (511 - 2 * (18 - k))), (1, .agg (slC (keyN k) (r : Int) (255 - k)).toArray)] rfl (.agg cs.toArray) (BP.out _) ?_)); go_step)
      refine wpList_buildG rfl 48 [(0, .tmp 34), (1, .tmp 42)] rfl [(0, .int .i64 (511 - 2 * (18 - k))), (1, .agg (slC (keyN k) (r : Int) (255 - k)).toArray)] rfl (.agg cs.toArray) (BP.out _) ?_
      try simp only [Act.put, List.setIfInBounds_toArray, List.set_cons_zero, List.set_cons_succ]
      repeat ((fail_if_success (refine wpList_slice1 rfl 24 48 (.tmp 43) rfl cs rfl i0 (.agg zP.toArray) Tryz.underlying24 HI.out.1 HI.out.2.1 L7.out L5.out L6.out ?_)); go_step)
      refine wpList_slice1 rfl 24 48 (.tmp 43) rfl cs rfl i0 (.agg zP.toArray) Tryz.underlying24 HI.out.1 HI.out.2.1 L7.out L5.out L6.out ?_
      rw [hwa']
      try simp only [Act.put, List.setIfInBounds_toArray, List.set_cons_zero, List.set_cons_succ]
      repeat ((fail_if_success (refine wpList_append_any rfl (.tmp 30) (.tmp 44) 24 rfl W.heap.size 48 i0 (.agg zP.toArray) 35 56 Tryz.underlying24 HI.out.1 HI.out.2.1 HI.out.2.2.1 HI.out.2.2.2 rfl (by decide) _ k _ rfl RX.out (some ⟨(wc).heap.size, 0, none⟩) 1 1 cs rfl NN.out L4.out CA.out HON.out L1.out L2.out BA.out.size ?_)); go_step)
      refine wpList_append_any rfl (.tmp 30) (.tmp 44) 24 rfl W.heap.size 48 i0 (.agg zP.toArray) 35 56 Tryz.underlying24 HI.out.1 HI.out.2.1 HI.out.2.2.1 HI.out.2.2.2 rfl (by decide) _ k _ rfl RX.out (some ⟨(wc).heap.size, 0, none⟩) 1 1 cs rfl NN.out L4.out CA.out HON.out L1.out L2.out BA.out.size ?_
      intro v' wb hown hgr
      obtain ⟨A4, c4, rfl⟩ := row_shapeS hown
      have PB := Lib.hid ((hgr.block p (heap_lt PA.out) (fun e => row_ne_cells RX.out PA.out (by decide) e.symm)).trans PA.out)
      have d4 := block_cell PB.out 5 _ rfl
      have f4 := frozen_of_row wb p 5 _ _ PB.out
      try simp only [Act.put, List.setIfInBounds_toArray, List.set_cons_zero, List.set_cons_succ]
      go_upto_region 4 with fail
      obtain ⟨we, hwn⟩ : ∃ w9, w9 = wb.setCell ⟨p, 5, none⟩ (.slice A4 (k + 1) c4) := ⟨_, rfl⟩
      rw [← hwn]
      have KB : Hid (Keeps (fun x => (Value.slice A2 k c2).ownBlock = some x) wc wb) := Lib.hid ((KA.out.mono fun _ _ h => h.elim).trans (Keeps.grown hgr fun _ e => e) fun _ _ h => h)
      have KC : Hid (Keeps (fun x => x = p) wb we) := Lib.hid (by rw [hwn]; exact Keeps.setCell (fun x => x = p) wb ⟨p, 5, none⟩ _ rfl)
      have RO := Lib.hid (KB.out.row HF.out.r1 fun x h1 h2 => own_ne HF.out.r1 HF.out.r2 (by decide) h1 h2)
      have QB := Lib.hid (KB.out.heap HF.out.res (fun e => row_ne_cells HF.out.r2 HF.out.res (by decide) e))
      rw [HFL.out] at hown
      have HF : Hid (Half W we p q ⟨1, 0, 0, 0, [], []⟩ A3 (k + 1) c3 elFN A4 (k + 1) c4 elPN) := Lib.hid ⟨by
          have h := set_blk (o := 5) (v := (.slice A4 (k + 1) c4)) PB.out
          rw [← hwn] at h
          exact h, KC.out.heap QB.out (by have := HPQ.out; omega), KC.out.row RO.out fun x h1 h2 => row_ne_cells RO.out PB.out (by decide) (h2 ▸ h1), KC.out.row hown fun x h1 h2 => row_ne_cells hown PB.out (by decide) (h2 ▸ h1), (HF.out.below.trans (KB.out.below (fun x hx => (HF.out.r2.lt x hx).1) HF.out.below.size)).trans (KC.out.below (fun x e => by have e : x = p := e; have := HPQ.out; have := HQ.out; omega) (Nat.le_trans HF.out.below.size KB.out.size))⟩
      clear hwn hown hgr PB d4 f4 ce0 KA BA RX CA PA hwa' NN L1 L2 L4 L5 L6 L7 KB KC RO QB HL HON HI HC
      clear HCS HFL BK BS BP
      go_wp2_with fail
      go_roundw
      case rel => exact ⟨k + 1, A3, c3, A4, c4, by omega, by go_num, HF.out⟩
      case measure => simp [intOf]; omega
    · obtain rfl : k = m := by omega
      have RA : Hid (wr.rangeAt p 0 (opL 1 0 0 0 A1 k c1 A2 k c2)) := Lib.hid (range_of HF.out.at_)
      have OO := Lib.hid (opL_one 1 0 0 0 A1 k c1 A2 k c2)
      have SPL : Hid (splice zOp 0 (opL 1 0 0 0 A1 k c1 A2 k c2) = opL 1 0 0 0 A1 k c1 A2 k c2) := Lib.hid (splice_whole _ _ rfl)
      go_wp2_with (first | (refine wpList_load_midG rfl 26 (.tmp 3) rfl p 0 rfl (opL 1 0 0 0 A1 k c1 A2 k c2) _ RA.out Tryz.underlying26 rfl sizeOp ?_) | (refine wpList_store_segK rfl 26 (.tmp 2) (.tmp 47) rfl q 0 rfl (opL 1 0 0 0 A1 k c1 A2 k c2) rfl zOp 26 HF.out.res sizeOp (Nat.le_refl _) OO.out rfl ?_; intro w9 h9 k9 s9))
      rw [SPL.out] at h9
      have hz : w9.rangeAt q 0 (opL 1 0 0 0 A1 k c1 A2 k c2) := fun j v hj => block_cell h9 _ v (by rw [Nat.zero_add]; simpa using hj)
      refine bodyPost_ret (results_cell_one rfl _ _ q _ _ rfl hz Tryz.underlying26 rfl sizeOp) rfl ?_
      exact ⟨A1, c1, A2, c2, rfl, ⟨k9.row HF.out.r1 (fun k h1 e => row_ne_cells HF.out.r1 HF.out.res (by decide) (e ▸ h1)), k9.row HF.out.r2 (fun k h1 e => row_ne_cells HF.out.r2 HF.out.res (by decide) (e ▸ h1)), HF.out.below.trans (k9.below (fun k e => by have e : k = q := e; have := HQ.out; omega) HF.out.below.size)⟩⟩
end Go.Proofs.YthdllbbjajddiaaGreatDoor
