/- Layer 25 (op): the program's reader: numbers and keys. -/
import Derived.Test.YthdllbbjajddiaaDoorPr
namespace Go.Proofs.YthdllbbjajddiaaDoor
open Go.RowKit Go.Maps Go.WideMaps
theorem take_len (m : Nat) (st : Rd) : (takeR m st).1.length = m := by
  unfold takeR
  split
  · simp
  · rename_i h
    rw [List.length_take]
    have : ¬ st.1.length < m := fun x => h (.inr x)
    omega
theorem take_byt1 {m : Nat} {st : Rd} (h : Byt st.1) : Byt (takeR m st).1 := by
  unfold takeR
  split
  · intro x hx
    rw [List.eq_of_mem_replicate hx]; omega
  · exact fun x hx => h x (List.mem_of_mem_take hx)
theorem ofInt_u64 (a : Nat) (ha : a < 18446744073709551616) : (BitVec.ofInt 64 (a : Int)).toNat = a := by
  rw [BitVec.toNat_ofInt]; omega
theorem i64_or_nat (a b : Nat) (ha : a < 9223372036854775808) (hb : b < 9223372036854775808) : bits .or .i64 (a : Int) (b : Int) = ((a ||| b : Nat) : Int) := by
  have hx : a ||| b < 2 ^ 63 := Nat.or_lt_two_pow (by omega) (by omega)
  show IntKind.i64.wrap ((BitVec.ofInt 64 (a : Int) ||| BitVec.ofInt 64 (b : Int)).toNat : Int) = _
  rw [BitVec.toNat_or, ofInt_u64 a (by omega), ofInt_u64 b (by omega), IntKind.wrap_i64]
  omega
/-- A byte behind a number. -/
theorem or_next {N y : Nat} (hN : N < 16777216) (hy : y < 256) : bits .or .i64 ((N : Int) * 256) (y : Int) = ((N * 256 + y : Nat) : Int) := by
  rw [show (N : Int) * 256 = ((N * 256 : Nat) : Int) by omega, i64_or_nat _ _ (by omega) (by omega)]
  congr 1
  have := Nat.two_pow_add_eq_or_of_lt (show y < 2 ^ 8 by omega) N
  rw [Nat.mul_comm, show (256 : Nat) = 2 ^ 8 from rfl, ← this]
def NumP (w : World) (r s : Nat) (l : List Int) (bad : Bool) (e : Ending) (w' : World) : Prop :=
  e = .returned (.int .i64 (numR s (l, bad)).1) ∧ Rdr w' r (numR s (l, bad)).2.1 (numR s (l, bad)).2.2 ∧ Keeps (fun k => k = r) w w'
theorem num_take {t : List Int} {k : Nat} (h : k < t.length) : num (t.take (k + 1)) = 256 * num (t.take k) + t.getD k 0 := by
  rw [List.take_succ_eq_append_getElem h, num_snoc, List.getD_eq_getElem?_getD, List.getElem?_eq_getElem h]; rfl
theorem num_ex {t : List Int} (hb : Byt t) {k : Nat} (h : k < t.length) (h4 : t.length ≤ 4) : ∃ N y : Nat, num (t.take k) = N ∧ t.getD k 0 = y ∧ N < 16777216 ∧ y < 256 ∧ num (t.take (k + 1)) = ((N * 256 + y : Nat) : Int) := by
  have h1 := num_bd (t.take k) fun x hx => hb x (List.mem_of_mem_take hx)
  have h2 : t.getD k 0 = t[k] := by rw [List.getD_eq_getElem?_getD, List.getElem?_eq_getElem h]; rfl
  have h3 := hb t[k] (List.getElem_mem h)
  have h5 : (256 : Int) ^ (t.take k).length ≤ 16777216 := by
    rw [List.length_take, Nat.min_eq_left (by omega)]
    have hk : k ≤ 3 := by omega
    match k, hk with
    | 0, _ | 1, _ | 2, _ | 3, _ => decide
  have h6 := num_take h
  refine ⟨(num (t.take k)).toNat, (t.getD k 0).toNat, by omega, by omega, by omega, by omega, ?_⟩
  rw [h6]; omega
set_option maxRecDepth 100000 in
set_option maxHeartbeats 2000000 in
theorem number44 (w : World) (r s : Nat) (l : List Int) (bad : Bool) (h : Rdr w r l bad) (hs : 1 ≤ s) (hs4 : s ≤ 4) :
    Calls Tryd.prog 44 #[.pointer (some ⟨r, 0, none⟩), .int .i64 s] w (NumP w r s l bad) := by
  have H := Lib.hid h
  clear h
  go_enter Tryd.func44, Tryd.ntmps44
  go_wp2_with fail
  refine (take83 w r s l bad H.out hs (by omega)).mono ?_
  rintro e w1 ⟨b, off, c, rfl, hc, hb, hbr, hcell, hr, hk⟩
  have HR : Hid (Rdr w1 r (numR s (l, bad)).2.1 (numR s (l, bad)).2.2) := Lib.hid hr
  have HK := Lib.hid hk
  have HE : Hid ((numR s (l, bad)).1 = num (takeR s (l, bad)).1) := Lib.hid rfl
  have HB := Lib.hid (take_byt1 (m := s) (st := (l, bad)) H.out.byt)
  have HL := Lib.hid (take_len s (l, bad))
  obtain ⟨t, ht⟩ : ∃ t, t = (takeR s (l, bad)).1 := ⟨_, rfl⟩
  rw [← ht] at hcell HE HB HL
  have HC := Lib.hid hcell
  clear hr hk hcell ht
  go_wp2_with fail
  go_loop [5, 12] (fun x i => ∃ k : Nat, k ≤ s ∧ i = .int .i64 k ∧ ∃ N : Nat, x = .int .i64 N ∧ num (t.take k) = N) (fun _ i => s - (intOf i).toNat)
  case atStart => exact ⟨0, Nat.zero_le _, rfl, 0, rfl, rfl⟩
  case round =>
    obtain ⟨k, hk, rfl, N, rfl, hN⟩ := hrel
    by_cases hlt : k < s
    · have hck := HC.out k hlt
      obtain ⟨N', y, h1, h2, h3, h4, h5⟩ := num_ex HB.out (k := k) (by rw [HL.out]; exact hlt) (by rw [HL.out]; exact hs4)
      obtain rfl : N = N' := by omega
      rw [h2] at hck
      have eo := or_next h3 h4
      obtain ⟨Z, hZ⟩ : ∃ Z, Z = N * 256 + y := ⟨_, rfl⟩
      rw [← hZ] at eo h5
      have H5 := Lib.hid h5
      have j1 : (0 : Int) ≤ k := by omega
      have j2 : (k : Int) < s := by omega
      clear hN h1 h2 h5 hZ
      go_wp2_with fail
      go_round
      case rel => exact ⟨k + 1, by omega, by go_num, Z, rfl, H5.out⟩
      case measure => simp [intOf]; omega
    · obtain rfl : k = s := by omega
      have e1 : (numR k (l, bad)).1 = N := by rw [HE.out, ← hN, List.take_of_length_le (by rw [HL.out]; exact Nat.le_refl _)]
      have E1 := Lib.hid e1
      clear e1 hN
      go_wp2_with fail
      go_ret
      exact ⟨ret_int E1.out.symm, HR.out, HK.out⟩
def zK : List Value := List.replicate 32 (.int .u8 0)
theorem zeroVK (u : World) : (zeroValue 60).run Tryd.prog u = .ok (.agg zK.toArray) u := by kernel_rfl
theorem zK_len : zK.length = 32 := rfl
theorem arrayAtK (A : Option Addr) (l c : Nat) (h : 32 ≤ l) (u : World) : (Instr.arrayAt 60 (.slice A l c)).run Tryd.prog u = .ok (.pointer A) u := by
  simp [Instr.arrayAt, run_underlying Tryd.underlying60, Result.andThen]
  omega
theorem u8l_at (t : List Int) (j : Nat) (v : Value) (h : (u8l t)[j]? = some v) : j < t.length ∧ v = .int .u8 (t.getD j 0) := by
  unfold u8l at h
  rw [List.getElem?_map] at h
  cases ht : t[j]? with
  | none => rw [ht] at h; cases h
  | some x =>
    rw [ht] at h
    cases h
    exact ⟨(List.getElem?_eq_some_iff.1 ht).1, by rw [List.getD_eq_getElem?_getD, ht]; rfl⟩
def KeyP (w : World) (r : Nat) (l : List Int) (bad : Bool) (e : Ending) (w' : World) : Prop :=
  e = .returned (kv (takeR 32 (l, bad)).1) ∧ KeyOk 32 (takeR 32 (l, bad)).1 ∧ Rdr w' r (takeR 32 (l, bad)).2.1 (takeR 32 (l, bad)).2.2 ∧ Keeps (fun k => k = r) w w'
set_option maxRecDepth 100000 in
set_option maxHeartbeats 2000000 in
theorem key84 (w : World) (r : Nat) (l : List Int) (bad : Bool) (h : Rdr w r l bad) :
    Calls Tryd.prog 84 #[.pointer (some ⟨r, 0, none⟩)] w (KeyP w r l bad) := by
  have H := Lib.hid h
  clear h
  go_enter Tryd.func84, Tryd.ntmps84
  go_wp2_with (refine wpList_laid rfl 60 rfl zK (zeroVK _) ?_)
  obtain ⟨w0, hw0⟩ : ∃ w0, w0 = w.alloc (.cells zK.toArray 60) := ⟨_, rfl⟩
  have K0 : Hid (Keeps (fun k => k = r) w w0) := Lib.hid (by rw [hw0]; exact Keeps.alloc _ _ _)
  have H0 : Hid (w0.heap[w.heap.size]? = some (.cells zK.toArray 60 (0, 0))) := Lib.hid (by rw [hw0]; exact heap_new w _)
  have R0 : Hid (Rdr w0 r l bad) := Lib.hid (by rw [hw0]; exact H.out.keeps (Keeps.alloc (fun _ => False) _ _) fun _ _ h => h)
  rw [← hw0]
  obtain ⟨q, hq⟩ : ∃ q, q = w.heap.size := ⟨_, rfl⟩
  rw [← hq] at H0 ⊢
  have HQ : Hid (w.heap.size = q) := Lib.hid hq.symm
  have HRQ : Hid (r < q) := Lib.hid (by rw [hq]; exact H.out.lt)
  clear hw0 hq
  go_wp2_with fail
  refine (take83 w0 r 32 l bad R0.out (by omega) (by omega)).mono ?_
  rintro e w1 ⟨b, off, c, rfl, hc, hb, hbr, hcell, hr, hk⟩
  have H1 := Lib.hid (hk.heap H0.out (by have := HRQ.out; omega))
  have R1 := Lib.hid hr
  have K1 := Lib.hid (K0.out.trans hk fun _ _ h => h)
  have hkey : KeyOk 32 (takeR 32 (l, bad)).1 := ⟨take_len _ _, take_byt1 H.out.byt⟩
  have HKEY := Lib.hid hkey
  have HRA : Hid (w1.rangeAt b off (u8l (takeR 32 (l, bad)).1)) := Lib.hid fun j v hj => by
    obtain ⟨h1, rfl⟩ := u8l_at _ _ _ hj
    exact hcell j (by rw [take_len] at h1; exact h1)
  have HSZ : Hid ((Tryd.prog.info? 60).map (·.size) = some (u8l (takeR 32 (l, bad)).1).length) := Lib.hid (by rw [u8l_len, hkey.len]; exact infoKey)
  have HON := Lib.hid (u8l_one (takeR 32 (l, bad)).1)
  have HLN : Hid (0 + (u8l (takeR 32 (l, bad)).1).length ≤ zK.length) := Lib.hid (by rw [u8l_len, hkey.len, zK_len]; omega)
  have HSP : Hid (∀ q', splice zK 0 (u8l (takeR 32 (l, bad)).1) = q' → q' = u8l (takeR 32 (l, bad)).1) := Lib.hid fun q' e => by rw [← e]; exact splice_whole _ _ (by rw [u8l_len, hkey.len, zK_len])
  have HKV : Hid (kv (takeR 32 (l, bad)).1 = .agg (u8l (takeR 32 (l, bad)).1).toArray) := Lib.hid rfl
  obtain ⟨cs, hcs⟩ : ∃ cs, cs = u8l (takeR 32 (l, bad)).1 := ⟨_, rfl⟩
  rw [← hcs] at HRA HSZ HON HLN HSP HKV
  have a60 := fun u => arrayAtK (some ⟨b, off, none⟩) 32 c (Nat.le_refl _) u
  clear hcell hr hk hkey hcs
  go_wp2_with (first | (refine wpList_load_midG rfl 60 (.tmp 5) rfl b off rfl cs _ HRA.out Tryd.underlying60 rfl HSZ.out ?_) | (refine wpList_store_segK rfl 60 (.tmp 2) (.tmp 6) rfl q 0 rfl cs rfl zK 60 H1.out HSZ.out HLN.out HON.out rfl ?_; intro w3 h3 k3 s3))
  rw [HSP.out _ rfl] at h3
  have hz : w3.rangeAt q 0 cs := fun j v hj => block_cell h3 _ v (by rw [Nat.zero_add]; simpa using hj)
  refine bodyPost_ret (results_cell_one rfl _ _ q _ _ rfl hz Tryd.underlying60 rfl HSZ.out) rfl ?_
  have hq := HQ.out
  have hrq := HRQ.out
  refine ⟨by rw [HKV.out], HKEY.out, R1.out.keeps k3 (fun k h1 h2 => by omega), ?_⟩
  exact ⟨k3.os.trans K1.out.os, k3.tape.trans K1.out.tape, k3.output.trans K1.out.output, Nat.le_trans K1.out.size k3.size, fun k hk hn => (k3.block k (Nat.lt_of_lt_of_le hk K1.out.size) (fun e => by have e : k = q := e; omega)).trans (K1.out.block k hk hn)⟩
end Go.Proofs.YthdllbbjajddiaaDoor
