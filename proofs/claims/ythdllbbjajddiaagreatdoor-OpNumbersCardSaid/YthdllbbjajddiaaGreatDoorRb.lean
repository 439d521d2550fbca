/- Layer 25 (op): the document's side: what bytes from a place say, and the key at a place. -/
import Derived.Test.YthdllbbjajddiaaGreatDoorRa
set_option linter.all false
namespace Go.Proofs.YthdllbbjajddiaaGreatDoor
open Go.RowKit Go.Maps Go.WideMaps
/-- So many bytes from a place on; 0 where there is none. -/
def readL (l : List Int) (at_ k : Nat) : List Int := (List.range k).map fun j => l.getD (at_ + j) 0
theorem readL_s (l : List Int) (at_ k : Nat) : readL l at_ (k + 1) = readL l at_ k ++ [l.getD (at_ + k) 0] := by simp [readL, List.range_succ]
theorem readL_len (l : List Int) (at_ k : Nat) : (readL l at_ k).length = k := by simp [readL]
theorem getD_byt {l : List Int} (h : Byt l) (j : Nat) : 0 ≤ l.getD j 0 ∧ l.getD j 0 < 256 := by
  rw [List.getD_eq_getElem?_getD]
  by_cases hj : j < l.length
  · rw [List.getElem?_eq_getElem hj]
    exact h _ (List.getElem_mem hj)
  · rw [List.getElem?_eq_none (by omega)]
    simp
theorem readL_byt {l : List Int} (h : Byt l) (at_ k : Nat) : Byt (readL l at_ k) := fun x hx => by
  obtain ⟨j, _, rfl⟩ := List.mem_map.1 hx
  exact getD_byt h _
def saidR (l : List Int) (at_ s : Nat) : Int := num (readL l at_ s)
theorem said_ex {l : List Int} (hb : Byt l) (at_ : Nat) {k : Nat} (h4 : k < 4) : ∃ N y : Nat, num (readL l at_ k) = N ∧ l.getD (at_ + k) 0 = y ∧ N < 16777216 ∧ y < 256 ∧ num (readL l at_ (k + 1)) = ((256 * N + y : Nat) : Int) := by
  have h1 := num_bd (readL l at_ k) (readL_byt hb at_ k)
  have h2 := getD_byt hb (at_ + k)
  rw [readL_len] at h1
  have h3 : (256 : Int) ^ k ≤ 256 ^ 3 := by
    have : k = 0 ∨ k = 1 ∨ k = 2 ∨ k = 3 := by omega
    rcases this with rfl | rfl | rfl | rfl <;> decide
  refine ⟨(num (readL l at_ k)).toNat, (l.getD (at_ + k) 0).toNat, by omega, by omega, by omega, by omega, ?_⟩
  rw [readL_s, num_snoc]
  omega
set_option maxRecDepth 100000 in
set_option maxHeartbeats 2000000 in
theorem said49 (l : List Int) (A : Option Addr) (n c at_ s : Nat) (w : World) (hn : l.length = n) (hn2 : n ≤ 1099511627776) (hb : Byt l) (ha : Arr w w.heap.size A n fun j => .int .u8 (l.getD j 0)) (hs4 : s ≤ 4) (hat : at_ ≤ 1099511627776) :
    Calls Tryz.prog 35 #[.slice A n c, .int .i64 at_, .int .i64 s] w fun e w' => e = .returned (.int .i64 (saidR l at_ s)) ∧ w = w' := by
  have HA := Lib.hid ha
  have HB := Lib.hid hb
  have HL := Lib.hid hn
  have hws : IntKind.i64.wrap ((at_ : Int) + s) = (at_ : Int) + s := IntWalk.i64_in _ (by omega)
  clear ha hb hn
  go_enter Tryz.func35, Tryz.ntmps35
  go_wp2_with fail
  go_loop [7, 8] (fun x i => ∃ k : Nat, k ≤ s ∧ i = .int .i64 ((at_ + k : Nat) : Int) ∧ x = .int .i64 (num (readL l at_ k))) (fun _ i => s + at_ - (intOf i).toNat)
  case atStart => exact ⟨0, Nat.zero_le _, rfl, rfl⟩
  case round =>
    obtain ⟨k, hk, rfl, rfl⟩ := hrel
    by_cases hlt : k < s
    · obtain ⟨N, y, h1, h2, h3, h4, h5⟩ := said_ex HB.out at_ (k := k) (by omega)
      rw [h1]
      obtain ⟨i, hi⟩ : ∃ i, i = at_ + k := ⟨_, rfl⟩
      rw [← hi] at h2 ⊢
      have HI := Lib.hid hi
      have t1 : decide ((i : Int) < (at_ : Int) + s) = true := by simp; omega
      have hw1 : IntKind.i64.wrap (256 * (N : Int)) = 256 * (N : Int) := IntWalk.i64_in _ (by omega)
      have hw3 : IntKind.i64.wrap ((i : Int) + 1) = (i : Int) + 1 := IntWalk.i64_in _ (by omega)
      by_cases hin : i < n
      · have t2 : decide ((i : Int) < n) = true := by simp; omega
        obtain ⟨b, off, rfl, hbb, hc⟩ := HA.out (by omega)
        have hci := hc i hin
        dsimp only at hci
        rw [h2] at hci
        have hw2 : IntKind.i64.wrap (256 * (N : Int) + y) = 256 * (N : Int) + y := IntWalk.i64_in _ (by omega)
        have H5 : Hid (256 * (N : Int) + y = num (readL l at_ (k + 1))) := Lib.hid (by rw [h5]; omega)
        have j1 : (0 : Int) ≤ i := by omega
        have j2 : (i : Int) < n := by omega
        clear h1 h2 h5 hc hi
        go_wp2_with fail
        go_round
        case rel => exact ⟨k + 1, by omega, by have := HI.out; go_num, by rw [H5.out]⟩
        case measure => have := HI.out; simp [intOf]; omega
      · have t2 : decide ((i : Int) < n) = false := by simp; omega
        have hy : y = 0 := by
          rw [List.getD_eq_getElem?_getD, List.getElem?_eq_none (by rw [HL.out]; omega)] at h2
          have h2 : (0 : Int) = y := h2
          omega
        have H5 : Hid (256 * (N : Int) = num (readL l at_ (k + 1))) := Lib.hid (by rw [h5]; omega)
        clear h1 h2 h5 hi
        go_wp2_with fail
        go_round
        case rel => exact ⟨k + 1, by omega, by have := HI.out; go_num, by rw [H5.out]⟩
        case measure => have := HI.out; simp [intOf]; omega
    · obtain rfl : k = s := by omega
      have t1 : decide ((((at_ + k : Nat) : Int)) < (at_ : Int) + k) = false := by simp
      obtain ⟨i, hi⟩ : ∃ i, i = at_ + k := ⟨_, rfl⟩
      rw [← hi] at t1 ⊢
      have HE : Hid (num (readL l at_ k) = saidR l at_ k) := Lib.hid rfl
      obtain ⟨N, hN⟩ : ∃ N, N = num (readL l at_ k) := ⟨_, rfl⟩
      rw [← hN] at HE ⊢
      clear hi hN
      go_wp2_with fail
      go_ret
      exact ⟨ret_int HE.out, rfl⟩
/-- A key half read. -/
def halfK (l : List Int) (at_ k : Nat) : List Int := readL l at_ k ++ List.replicate (32 - k) 0
theorem halfK_len (l : List Int) (at_ : Nat) {k : Nat} (h : k ≤ 32) : (halfK l at_ k).length = 32 := by simp [halfK, readL_len]; omega
theorem halfK_set (l : List Int) (at_ : Nat) {k : Nat} (h : k < 32) : (u8l (halfK l at_ k)).set k (.int .u8 (l.getD (at_ + k) 0)) = u8l (halfK l at_ (k + 1)) := by
  have e : List.replicate (32 - k) (0 : Int) = 0 :: List.replicate (32 - (k + 1)) 0 := by rw [show 32 - k = (32 - (k + 1)) + 1 by omega, List.replicate_succ]
  unfold halfK u8l
  rw [e, readL_s]
  simp only [List.map_append, List.map_cons, List.map_nil, List.append_assoc, List.cons_append, List.nil_append]
  rw [List.set_append_right _ _ (by simp [readL_len]), List.length_map, readL_len, Nat.sub_self, List.set_cons_zero]
theorem halfK_skip (l : List Int) (at_ : Nat) {k : Nat} (h : k < 32) (hl : l.length ≤ at_ + k) : halfK l at_ k = halfK l at_ (k + 1) := by
  have e : List.replicate (32 - k) (0 : Int) = 0 :: List.replicate (32 - (k + 1)) 0 := by rw [show 32 - k = (32 - (k + 1)) + 1 by omega, List.replicate_succ]
  unfold halfK
  rw [e, readL_s, List.getD_eq_getElem?_getD, List.getElem?_eq_none hl]
  simp
theorem halfK_all (l : List Int) (at_ : Nat) : halfK l at_ 32 = readL l at_ 32 := by simp [halfK]
set_option maxRecDepth 100000 in
set_option maxHeartbeats 2000000 in
theorem key50 (l : List Int) (A : Option Addr) (n c at_ : Nat) (w : World) (hn : l.length = n) (hn2 : n ≤ 1099511627776) (hb : Byt l) (ha : Arr w w.heap.size A n fun j => .int .u8 (l.getD j 0)) (hat : at_ ≤ 1099511627776) :
    Calls Tryz.prog 36 #[.slice A n c, .int .i64 at_] w fun e w' => e = .returned (kv (readL l at_ 32)) ∧ KeyOk 32 (readL l at_ 32) ∧ Below w.heap.size w w' := by
  have HA := Lib.hid ha
  have HB := Lib.hid hb
  have HL := Lib.hid hn
  clear ha hb hn
  go_enter Tryz.func36, Tryz.ntmps36
  go_upto_region 2 with (refine wpList_laid rfl 44 rfl zK (zeroVK _) ?_)
  obtain ⟨w1, hw1⟩ : ∃ w1, w1 = (w.alloc (.cells zK.toArray 44)).alloc (.cells zK.toArray 44) := ⟨_, rfl⟩
  have B1 : Hid (Below w.heap.size w w1) := Lib.hid (by rw [hw1]; exact ((Below.refl _ _).alloc (Nat.le_refl _) _).alloc (by simp) _)
  have Q1 : Hid (w1.heap[w.heap.size]? = some (.cells zK.toArray 44 (0, 0))) := Lib.hid (by rw [hw1]; exact heap_old (heap_new w _))
  have P1 : Hid (w1.heap[(w.alloc (.cells zK.toArray 44)).heap.size]? = some (.cells (u8l (halfK l at_ 0)).toArray 44 (0, 0))) := Lib.hid (by rw [hw1]; exact heap_new _ _)
  rw [← hw1]
  obtain ⟨q, hq⟩ : ∃ q, q = w.heap.size := ⟨_, rfl⟩
  obtain ⟨p, hp⟩ : ∃ p, p = (w.alloc (.cells zK.toArray 44)).heap.size := ⟨_, rfl⟩
  rw [← hp] at P1 ⊢
  rw [← hq] at Q1 ⊢
  have HQ : Hid (w.heap.size = q ∧ p = q + 1) := Lib.hid ⟨hq.symm, by rw [hp, hq]; simp⟩
  clear hw1 hq hp
  go_wp2_with fail
  go_loopw [6] (fun i wr => ∃ k : Nat, k ≤ 32 ∧ i = .int .i64 k ∧ wr.heap[p]? = some (.cells (u8l (halfK l at_ k)).toArray 44 (0, 0)) ∧ wr.heap[q]? = some (.cells zK.toArray 44 (0, 0)) ∧ Below w.heap.size w wr) (fun i _ => 32 - (intOf i).toNat)
  case atStart => exact ⟨0, by omega, rfl, P1.out, Q1.out, B1.out⟩
  case round =>
    clear P1 Q1 B1
    obtain ⟨k, hk, rfl, hp, hq, hb⟩ := hrel
    have P1 := Lib.hid hp
    have Q1 := Lib.hid hq
    have B1 := Lib.hid hb
    clear hp hq hb
    by_cases hlt : k < 32
    · have t1 : decide ((k : Int) < 32) = true := by simp; omega
      have hw1 : IntKind.i64.wrap ((at_ : Int) + k) = ((at_ + k : Nat) : Int) := by rw [IntWalk.i64_in _ (by omega)]; omega
      have hw3 : IntKind.i64.wrap ((k : Int) + 1) = (k : Int) + 1 := IntWalk.i64_in _ (by omega)
      have HST := Lib.hid (halfK_set l at_ hlt)
      have HSK := Lib.hid (halfK_skip l at_ hlt)
      obtain ⟨i, hi⟩ : ∃ i, i = at_ + k := ⟨_, rfl⟩
      rw [← hi] at hw1 HST HSK
      have k1 : (0 : Int) ≤ k := by omega
      have k2 : (k : Int) < 32 := by omega
      by_cases hin : i < n
      · have t2 : decide ((i : Int) < n) = true := by simp; omega
        obtain ⟨b, off, rfl, hbb, hc⟩ := (HA.out.below B1.out (Nat.le_refl _)) (by omega)
        have hci := hc i hin
        dsimp only at hci
        obtain ⟨y, hy⟩ : ∃ y, y = l.getD i 0 := ⟨_, rfl⟩
        rw [← hy] at hci HST
        have j1 : (0 : Int) ≤ i := by omega
        have j2 : (i : Int) < n := by omega
        have hcell : ∃ v0, wr.cell? ⟨p, k, none⟩ = some v0 := by
          have hl : k < (u8l (halfK l at_ k)).length := by rw [u8l_len, halfK_len l at_ hk]; exact hlt
          exact ⟨(u8l (halfK l at_ k))[k], by have := range_of P1.out k _ (List.getElem?_eq_getElem hl); rwa [Nat.zero_add] at this⟩
        obtain ⟨v0, hv0⟩ := hcell
        have hfz := frozen_of_row wr p k _ _ P1.out
        have P2 : Hid ((wr.setCell ⟨p, k, none⟩ (.int .u8 y)).heap[p]? = some (.cells (u8l (halfK l at_ (k + 1))).toArray 44 (0, 0))) := Lib.hid (by
          have := set_blk (o := k) (v := .int .u8 y) P1.out
          rwa [HST.out] at this)
        have hpq : p ≠ q := by have := HQ.out; omega
        have Q2 : Hid ((wr.setCell ⟨p, k, none⟩ (.int .u8 y)).heap[q]? = some (.cells zK.toArray 44 (0, 0))) := Lib.hid (by rw [heap_setCell_other _ _ _ _ (fun e => hpq e.symm)]; exact Q1.out)
        have B2 : Hid (Below w.heap.size w (wr.setCell ⟨p, k, none⟩ (.int .u8 y))) := Lib.hid (B1.out.setCell (by have := HQ.out; show w.heap.size ≤ p; omega) _)
        clear hc hi hy hpq
        go_wp2_with fail
        go_roundw
        case rel => exact ⟨k + 1, by omega, by go_num, P2.out, Q2.out, B2.out⟩
        case measure => simp [intOf]; omega
      · have t2 : decide ((i : Int) < n) = false := by simp; omega
        have P2 : Hid (wr.heap[p]? = some (.cells (u8l (halfK l at_ (k + 1))).toArray 44 (0, 0))) := Lib.hid (by rw [← HSK.out (by rw [HL.out]; omega)]; exact P1.out)
        clear hi
        go_wp2_with fail
        go_roundw
        case rel => exact ⟨k + 1, by omega, by go_num, P2.out, Q1.out, B1.out⟩
        case measure => simp [intOf]; omega
    · obtain rfl : k = 32 := by omega
      have hp1 := P1.out
      rw [halfK_all] at hp1
      have hkey : KeyOk 32 (readL l at_ 32) := ⟨readL_len _ _ _, readL_byt HB.out _ _⟩
      have HKEY := Lib.hid hkey
      have HRA := Lib.hid (range_of hp1)
      have HSZ : Hid ((Tryz.prog.info? 44).map (·.size) = some (u8l (readL l at_ 32)).length) := Lib.hid (by rw [u8l_len, hkey.len]; exact infoKey)
      have HON := Lib.hid (u8l_one (readL l at_ 32))
      have HLN : Hid (0 + (u8l (readL l at_ 32)).length ≤ zK.length) := Lib.hid (by rw [u8l_len, hkey.len, zK_len]; omega)
      have HSP : Hid (∀ q', splice zK 0 (u8l (readL l at_ 32)) = q' → q' = u8l (readL l at_ 32)) := Lib.hid fun q' e => by rw [← e]; exact splice_whole _ _ (by rw [u8l_len, hkey.len, zK_len])
      have HKV : Hid (kv (readL l at_ 32) = .agg (u8l (readL l at_ 32)).toArray) := Lib.hid rfl
      obtain ⟨cs, hcs⟩ : ∃ cs, cs = u8l (readL l at_ 32) := ⟨_, rfl⟩
      rw [← hcs] at HRA HSZ HON HLN HSP HKV
      have t1 : decide (((32 : Nat) : Int) < 32) = false := by decide
      clear hp1 hkey hcs P1
      go_wp2_with (first | (refine wpList_load_midG rfl 44 (.tmp 5) rfl p 0 rfl cs _ HRA.out Tryz.underlying44 rfl HSZ.out ?_) | (refine wpList_store_segK rfl 44 (.tmp 4) (.tmp 25) rfl q 0 rfl cs rfl zK 44 Q1.out HSZ.out HLN.out HON.out rfl ?_; intro w3 h3 k3 s3))
      rw [HSP.out _ rfl] at h3
      have hz : w3.rangeAt q 0 cs := fun j v hj => block_cell h3 _ v (by rw [Nat.zero_add]; simpa using hj)
      refine bodyPost_ret (results_cell_one rfl _ _ q _ _ rfl hz Tryz.underlying44 rfl HSZ.out) rfl ?_
      exact ⟨by rw [HKV.out], HKEY.out, B1.out.trans (k3.below (fun i e => by have e : i = q := e; have := HQ.out; omega) B1.out.size)⟩
end Go.Proofs.YthdllbbjajddiaaGreatDoor
