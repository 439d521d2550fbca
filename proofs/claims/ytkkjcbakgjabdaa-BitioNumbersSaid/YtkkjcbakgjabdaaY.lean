/- The law BitioNumbers of layer 3 (bitio): it returns true. -/
import Derived.Test.YtkkjcbakgjabdaaX
import Derived.IntWalk
namespace Go.Proofs.Ytkkjcbakgjabdaa
open Go.RowKit
/-- Three pieces in a block of their own. -/
theorem pcs3 {w : World} {h : Nat} {x1 x2 x3 : Nat} {n1 n2 n3 : Int} {b1 b2 b3 : Bool}
    (hb : w.heap[h]? = some (.cells #[.int .u32 (x1 : Nat), .int .i64 n1, .bool b1, .int .u32 (x2 : Nat), .int .i64 n2, .bool b2, .int .u32 (x3 : Nat), .int .i64 n3, .bool b3] 44)) :
    Pcs w w.heap.size (some ⟨h, 0, none⟩) 3 ⟨fun j => match j with | 0 => x1 | 1 => x2 | _ => x3, fun j => match j with | 0 => n1 | 1 => n2 | _ => n3, fun j => match j with | 0 => b1 | 1 => b2 | _ => b3⟩ := fun _ =>
  ⟨h, 0, rfl, heap_lt hb, fun j hj => match j, hj with
    | 0, _ => ⟨block_cell hb 0 _ rfl, block_cell hb 1 _ rfl, block_cell hb 2 _ rfl⟩
    | 1, _ => ⟨block_cell hb 3 _ rfl, block_cell hb 4 _ rfl, block_cell hb 5 _ rfl⟩
    | 2, _ => ⟨block_cell hb 6 _ rfl, block_cell hb 7 _ rfl, block_cell hb 8 _ rfl⟩⟩
def farG : Pc := ⟨fun _ => 0, fun j => match j with | 0 => 4611686018427387904 | 1 => (-9223372036854775808) | 2 => 32 | 3 => 33 | 4 => 9 | 5 => 8 | 6 => 1 | _ => 0, fun j => match j with | 0 => false | 1 => true | 2 => true | 3 => false | 4 => false | 5 => false | 6 => false | _ => true⟩
theorem farG_ok : farG.Ok 8 := fun j hj => by
  match j, hj with
  | 0, _ => exact ⟨by decide, by decide, by decide⟩
  | 1, _ => exact ⟨by decide, by decide, by decide⟩
  | 2, _ => exact ⟨by decide, by decide, by decide⟩
  | 3, _ => exact ⟨by decide, by decide, by decide⟩
  | 4, _ => exact ⟨by decide, by decide, by decide⟩
  | 5, _ => exact ⟨by decide, by decide, by decide⟩
  | 6, _ => exact ⟨by decide, by decide, by decide⟩
  | 7, _ => exact ⟨by decide, by decide, by decide⟩
theorem pcs8 {w : World} {h : Nat} (hb : w.heap[h]? = some (.cells #[.int .u32 0, .int .i64 4611686018427387904, .bool false, .int .u32 0, .int .i64 (-9223372036854775808), .bool true, .int .u32 0, .int .i64 32, .bool true, .int .u32 0, .int .i64 33, .bool false, .int .u32 0, .int .i64 9, .bool false, .int .u32 0, .int .i64 8, .bool false, .int .u32 0, .int .i64 1, .bool false, .int .u32 0, .int .i64 0, .bool true] 44)) : Pcs w w.heap.size (some ⟨h, 0, none⟩) 8 farG := fun _ =>
  ⟨h, 0, rfl, heap_lt hb, fun j hj => match j, hj with
    | 0, _ => ⟨block_cell hb 0 _ rfl, block_cell hb 1 _ rfl, block_cell hb 2 _ rfl⟩
    | 1, _ => ⟨block_cell hb 3 _ rfl, block_cell hb 4 _ rfl, block_cell hb 5 _ rfl⟩
    | 2, _ => ⟨block_cell hb 6 _ rfl, block_cell hb 7 _ rfl, block_cell hb 8 _ rfl⟩
    | 3, _ => ⟨block_cell hb 9 _ rfl, block_cell hb 10 _ rfl, block_cell hb 11 _ rfl⟩
    | 4, _ => ⟨block_cell hb 12 _ rfl, block_cell hb 13 _ rfl, block_cell hb 14 _ rfl⟩
    | 5, _ => ⟨block_cell hb 15 _ rfl, block_cell hb 16 _ rfl, block_cell hb 17 _ rfl⟩
    | 6, _ => ⟨block_cell hb 18 _ rfl, block_cell hb 19 _ rfl, block_cell hb 20 _ rfl⟩
    | 7, _ => ⟨block_cell hb 21 _ rfl, block_cell hb 22 _ rfl, block_cell hb 23 _ rfl⟩⟩
def wd (k : Nat) : Nat := match k with | 0 => 0 | 1 => 1 | 2 => 4294967295 | 3 => 2147483648 | _ => 2779096485
set_option maxRecDepth 100000 in
theorem wd_lt (k : Nat) : wd k < 4294967296 := by unfold wd; split <;> omega
def words : Array Value := #[.int .u32 0, .int .u32 1, .int .u32 4294967295, .int .u32 2147483648, .int .u32 2779096485]
set_option maxRecDepth 100000 in
theorem word_at {w : World} {h k : Nat} (hb : w.heap[h]? = some (.cells words 31)) (hk : k < 5) : w.cell? ⟨h, k, none⟩ = some (.int .u32 (wd k : Nat)) :=
  block_cell hb k _ (match k, hk with | 0, _ => rfl | 1, _ => rfl | 2, _ => rfl | 3, _ => rfl | 4, _ => rfl)
/-- Five bytes in a block of their own. -/
theorem arr5 {w : World} {h : Nat} {a b c d e : Int} (hb : w.heap[h]? = some (.cells #[.int .u8 a, .int .u8 b, .int .u8 c, .int .u8 d, .int .u8 e] 5)) :
    Arr w w.heap.size (some ⟨h, 0, none⟩) 5 fun j => .int .u8 ((fun j => match j with | 0 => a | 1 => b | 2 => c | 3 => d | _ => e : Nat → Int) j) :=
  Arr.ofBlock 5 _ hb fun j hj => match j, hj with | 0, _ => rfl | 1, _ => rfl | 2, _ => rfl | 3, _ => rfl | 4, _ => rfl
set_option maxRecDepth 100000 in
set_option maxHeartbeats 8000000 in
theorem numbers7 (W : World) : Calls Try.prog 7 #[] W fun e W' => e = .returned (.bool true) ∧ Below W.heap.size W W' := by
  go_enter Try.func7, Try.ntmps7
  go_wp2_with fail
  have h0 : (W.alloc (.cells words 31)).heap[W.heap.size]? = some (.cells words 31) := heap_new W _
  have H0 := Lib.hid (And.intro ((Below.refl W.heap.size W).alloc (Nat.le_refl _) (.cells words 31)) h0)
  clear h0
  obtain ⟨h, hh⟩ : ∃ h, h = W.heap.size := ⟨_, rfl⟩
  have H1 : Hid (Below W.heap.size W (W.alloc (.cells words 31)) ∧ (W.alloc (.cells words 31)).heap[h]? = some (.cells words 31)) := Lib.hid (by rw [hh]; exact H0.out)
  rw [← hh]
  clear H0 hh
  go_loopw [2] (fun i wr => ∃ k : Nat, k ≤ 9 ∧ i = .int .i64 k ∧ Below W.heap.size W wr ∧ wr.heap[h]? = some (.cells words 31)) (fun i _ => 9 - (intOf i).toNat)
  case atStart => exact ⟨0, Nat.zero_le _, rfl, H1.out⟩
  case round =>
    clear H1
    obtain ⟨k, hk, rfl, hb⟩ := hrel
    have H1 := Lib.hid hb
    clear hb
    by_cases hlt : k < 9
    · have t9 : decide ((k : Int) < 9) = true := by simp; omega
      obtain ⟨wo, hwo⟩ : ∃ wo, wo = wr := ⟨_, rfl⟩
      subst hwo
      go_wp2_with fail
      go_loopw [3] (fun i wr => ∃ n : Int, -1 ≤ n ∧ n ≤ 35 ∧ i = .int .i64 n ∧ Below W.heap.size W wr ∧ wr.heap[h]? = some (.cells words 31)) (fun i _ => (35 - intOf i).toNat)
      case atStart => exact ⟨-1, by omega, by omega, rfl, H1.out⟩
      case round =>
        clear H1
        obtain ⟨n, hn1, hn2, rfl, hb⟩ := hrel
        have H1 := Lib.hid hb
        clear hb
        by_cases hln : n < 35
        · have t35 : decide (n < 35) = true := by simp; omega
          obtain ⟨wo2, hwo⟩ : ∃ wo, wo = wr := ⟨_, rfl⟩
          subst hwo
          go_wp2_with fail
          go_loopw [4] (fun i wr => ∃ q : Nat, q ≤ 5 ∧ i = .int .i64 q ∧ Below W.heap.size W wr ∧ wr.heap[h]? = some (.cells words 31)) (fun i _ => 5 - (intOf i).toNat)
          case atStart => exact ⟨0, by omega, rfl, H1.out⟩
          case round =>
            clear H1
            obtain ⟨q, hq, rfl, hb⟩ := hrel
            have H1 := Lib.hid hb
            clear hb
            by_cases hlq : q < 5
            · obtain ⟨q2, hq2⟩ : ∃ q2 : Nat, ((q : Int) + 1) % 5 = q2 := ⟨(q + 1) % 5, by omega⟩
              have hq3 : q2 < 5 := by omega
              obtain ⟨r2, hr2⟩ : ∃ r2 : Nat, (q : Int) % 2 = r2 := ⟨q % 2, by omega⟩
              have c1 := word_at H1.out.2 hlq
              have c2 := word_at H1.out.2 hq3
              have hx := wd_lt q
              have hy := wd_lt q2
              obtain ⟨x, hxx⟩ : ∃ x, x = wd q := ⟨_, rfl⟩
              obtain ⟨y, hyy⟩ : ∃ y, y = wd q2 := ⟨_, rfl⟩
              have C1 : Hid (∀ w' : World, w'.heap[h]? = some (.cells words 31) → w'.cell? ⟨h, q, none⟩ = some (.int .u32 (x : Nat))) := Lib.hid fun w' hw' => by rw [hxx]; exact word_at hw' hlq
              rw [← hxx] at c1 hx
              rw [← hyy] at c2 hy
              clear hxx hyy
              have j1 : (0 : Int) ≤ q := by omega
              have j2 : (q : Int) < 5 := by omega
              have j3 : (0 : Int) ≤ q2 := by omega
              have j4 : (q2 : Int) < 5 := by omega
              have hn1c := World.new_ne wr _ c1
              have hn2c := World.new_ne wr _ c2
              have s1 : IntKind.i64.wrap ((q : Int) + 1) = (q : Int) + 1 := IntWalk.i64_in _ (by omega)
              have s2 : ((q : Int) + 1).tmod 5 = q2 := by rw [Int.tmod_eq_emod_of_nonneg (by omega)]; exact hq2
              have s3 : (q : Int).tmod 2 = r2 := by rw [Int.tmod_eq_emod_of_nonneg (by omega)]; exact hr2
              clear hq2 hr2
              go_wp2_with fail
              go_region_held3 (fun w' => w'.cell? ⟨h, q, none⟩ = some (.int .u32 (x : Nat)) ∧ w'.cell? ⟨h, q2, none⟩ = some (.int .u32 (y : Nat))) (go_keep) (fail)
              clear s1 s2 s3 hn1c hn2c
              go_wp2_with fail
              have hok : (⟨fun j => match j with | 0 => x | 1 => x | _ => y, fun j => match j with | 0 => (k : Int) | 1 => n | _ => 7, fun j => match j with | 0 => false | 1 => false | _ => ((r2 : Int) == 1)⟩ : Pc).Ok 3 := fun j hj => by
                match j, hj with
                | 0, _ => exact ⟨hx, by show (-9223372036854775808 : Int) ≤ (k : Int); omega, by show (k : Int) ≤ 9223372036854775807; omega⟩
                | 1, _ => exact ⟨hx, by show (-9223372036854775808 : Int) ≤ n; omega, by show n ≤ 9223372036854775807; omega⟩
                | 2, _ => exact ⟨hy, by show (-9223372036854775808 : Int) ≤ 7; decide, by show (7 : Int) ≤ 9223372036854775807; decide⟩
              have HOK := Lib.hid hok
              clear hok
              generalize hwl : World.drew (wr.alloc _) = wl
              have hl : wl.heap[wr.heap.size]? = some (.cells #[.int .u32 (x : Nat), .int .i64 (k : Nat), .bool false, .int .u32 (x : Nat), .int .i64 n, .bool false, .int .u32 (y : Nat), .int .i64 7, .bool ((r2 : Int) == 1)] 44) := by
                rw [← hwl]; exact heap_new wr _
              have hbl : Below W.heap.size W wl := by
                rw [← hwl]; exact below_drewN (H1.out.1.alloc H1.out.1.size _) 1
              have hhl : wl.heap[h]? = some (.cells words 31) := by
                rw [← hwl]; exact heap_old H1.out.2
              clear hwl c1 c2
              have HL := Lib.hid (And.intro hl (And.intro hbl hhl))
              clear hl hbl hhl
              refine (writes4 _ _ 3 3 wl (by omega) (pcs3 HL.out.1) HOK.out).mono ?_
              rintro e w5 ⟨rfl, hb5⟩
              have H5 := Lib.hid (And.intro (HL.out.2.1.trans (hb5.mono HL.out.2.1.size)) (And.intro ((hb5.block _ (heap_lt HL.out.1)).trans HL.out.1) ((hb5.block _ (heap_lt HL.out.2.2)).trans HL.out.2.2)))
              have c1 := C1.out w5 H5.out.2.2
              clear hb5
              go_wp2_with fail
              refine (reads5 _ _ _ _ 5 5 3 3 _ (by omega) (by omega) (by intro j hj; match j, hj with | 0, _ => exact ⟨by first | omega | (dsimp only; omega) | (simp; done) | (simp; omega), by first | omega | (dsimp only; omega) | (simp; done) | (simp; omega)⟩ | 1, _ => exact ⟨by first | omega | (dsimp only; omega) | (simp; done) | (simp; omega), by first | omega | (dsimp only; omega) | (simp; done) | (simp; omega)⟩ | 2, _ => exact ⟨by first | omega | (dsimp only; omega) | (simp; done) | (simp; omega), by first | omega | (dsimp only; omega) | (simp; done) | (simp; omega)⟩ | 3, _ => exact ⟨by first | omega | (dsimp only; omega) | (simp; done) | (simp; omega), by first | omega | (dsimp only; omega) | (simp; done) | (simp; omega)⟩ | 4, _ => exact ⟨by first | omega | (dsimp only; omega) | (simp; done) | (simp; omega), by first | omega | (dsimp only; omega) | (simp; done) | (simp; omega)⟩) (arr5 (heap_new w5 _)) (fun h => by cases h) (pcs3 (heap_old H5.out.2.1)) HOK.out).mono ?_
              rintro e w6 ⟨rfl, hb6⟩
              have H6 : Hid (Below W.heap.size W w6 ∧ w6.heap[h]? = some (.cells words 31)) := Lib.hid ⟨(H5.out.1.alloc H5.out.1.size _).trans (hb6.mono (H5.out.1.alloc H5.out.1.size _).size), (hb6.block h (heap_lt (heap_old H5.out.2.2))).trans (heap_old H5.out.2.2)⟩
              clear hb6 c1
              go_wp2_with fail
              go_roundw
              case rel => exact ⟨q + 1, by omega, by go_num, H6.out⟩
              case measure => simp [intOf]; omega
            · obtain rfl : q = 5 := by omega
              go_wp2_with fail
              go_roundw
              case rel => exact ⟨n + 1, by omega, by omega, by go_num, H1.out⟩
              case measure => simp [intOf]; omega
        · obtain rfl : n = 35 := by omega
          go_wp2_with fail
          go_roundw
          case rel => exact ⟨k + 1, by omega, by go_num, H1.out⟩
          case measure => simp [intOf]; omega
    · obtain rfl : k = 9 := by omega
      go_wp2_with fail
      have hl := heap_new wr (.cells #[.int .u32 0, .int .i64 4611686018427387904, .bool false, .int .u32 0, .int .i64 (-9223372036854775808), .bool true, .int .u32 0, .int .i64 32, .bool true, .int .u32 0, .int .i64 33, .bool false, .int .u32 0, .int .i64 9, .bool false, .int .u32 0, .int .i64 8, .bool false, .int .u32 0, .int .i64 1, .bool false, .int .u32 0, .int .i64 0, .bool true] 44)
      have HL := Lib.hid (And.intro hl (H1.out.1.alloc H1.out.1.size (.cells #[.int .u32 0, .int .i64 4611686018427387904, .bool false, .int .u32 0, .int .i64 (-9223372036854775808), .bool true, .int .u32 0, .int .i64 32, .bool true, .int .u32 0, .int .i64 33, .bool false, .int .u32 0, .int .i64 9, .bool false, .int .u32 0, .int .i64 8, .bool false, .int .u32 0, .int .i64 1, .bool false, .int .u32 0, .int .i64 0, .bool true] 44)))
      clear hl
      refine (writes4 farG _ 8 8 _ (by omega) (pcs8 HL.out.1) farG_ok).mono ?_
      rintro e w5 ⟨rfl, hb5⟩
      have H5 := Lib.hid (And.intro (HL.out.2.trans (hb5.mono HL.out.2.size)) ((hb5.block _ (heap_lt HL.out.1)).trans HL.out.1))
      clear hb5
      go_wp2_with fail
      refine (reads5 _ farG _ _ 5 5 8 8 _ (by omega) (by omega) (by intro j hj; match j, hj with | 0, _ => exact ⟨by first | omega | (dsimp only; omega) | (simp; done) | (simp; omega), by first | omega | (dsimp only; omega) | (simp; done) | (simp; omega)⟩ | 1, _ => exact ⟨by first | omega | (dsimp only; omega) | (simp; done) | (simp; omega), by first | omega | (dsimp only; omega) | (simp; done) | (simp; omega)⟩ | 2, _ => exact ⟨by first | omega | (dsimp only; omega) | (simp; done) | (simp; omega), by first | omega | (dsimp only; omega) | (simp; done) | (simp; omega)⟩ | 3, _ => exact ⟨by first | omega | (dsimp only; omega) | (simp; done) | (simp; omega), by first | omega | (dsimp only; omega) | (simp; done) | (simp; omega)⟩ | 4, _ => exact ⟨by first | omega | (dsimp only; omega) | (simp; done) | (simp; omega), by first | omega | (dsimp only; omega) | (simp; done) | (simp; omega)⟩) (arr5 (heap_new w5 _)) (fun h => by cases h) (pcs8 (heap_old H5.out.2)) farG_ok).mono ?_
      rintro e w6 ⟨rfl, hb6⟩
      have H6 := Lib.hid (And.intro ((H5.out.1.alloc H5.out.1.size _).trans (hb6.mono (H5.out.1.alloc H5.out.1.size _).size)) ((hb6.block _ (heap_lt (heap_old H5.out.2))).trans (heap_old H5.out.2)))
      clear hb6
      go_wp2_with fail
      refine (reads5 (fun _ => 0) farG none _ 0 0 8 8 w6 (by omega) (by omega) (fun j hj => absurd hj (by omega)) (fun h => absurd h (by omega)) (fun _ => ⟨rfl, rfl⟩) (pcs8 H6.out.2) farG_ok).mono ?_
      rintro e w7 ⟨rfl, hb7⟩
      have H7 := Lib.hid (H6.out.1.trans (hb7.mono H6.out.1.size))
      clear hb7
      go_wp2_with fail
      refine (awake9 w7).mono ?_
      rintro e w8 ⟨rfl, hb8⟩
      have H8 := Lib.hid (H7.out.trans (hb8.mono H7.out.size))
      clear hb8
      go_wp2_with fail
      go_ret
      exact ⟨rfl, H8.out⟩
end Go.Proofs.Ytkkjcbakgjabdaa
