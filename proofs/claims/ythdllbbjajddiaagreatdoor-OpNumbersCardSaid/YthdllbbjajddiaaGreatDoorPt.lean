/- Layer 25 (op): the program's reader: numbers and keys. -/
import Derived.Test.YthdllbbjajddiaaGreatDoorPr
set_option linter.all false
namespace Go.Proofs.YthdllbbjajddiaaGreatDoor
open Go.RowKit Go.Maps Go.WideMaps
theorem take_len (m : Nat) (st : Rd) : (takeR m st).1.length = m := by
  unfold takeR
  split
  · simp
  · rename_i h
    rw [List.length_take]
    have : ¬ st.1.length < m := fun x => h (.inr x)
    omega
theorem take_byt1 {m : Nat} {st : Rd} (h : Byt st.1) : Byt (takeR m st).1 := by
  unfold takeR
  split
  · intro x hx
    rw [List.eq_of_mem_replicate hx]; omega
  · exact fun x hx => h x (List.mem_of_mem_take hx)
theorem ofInt_u64 (a : Nat) (ha : a < 18446744073709551616) : (BitVec.ofInt 64 (a : Int)).toNat = a := by
  rw [BitVec.toNat_ofInt]; omega
theorem i64_or_nat (a b : Nat) (ha : a < 9223372036854775808) (hb : b < 9223372036854775808) : bits .or .i64 (a : Int) (b : Int) = ((a ||| b : Nat) : Int) := by
  have hx : a ||| b < 2 ^ 63 := Nat.or_lt_two_pow (by omega) (by omega)
  show IntKind.i64.wrap ((BitVec.ofInt 64 (a : Int) ||| BitVec.ofInt 64 (b : Int)).toNat : Int) = _
  rw [BitVec.toNat_or, ofInt_u64 a (by omega), ofInt_u64 b (by omega), IntKind.wrap_i64]
  omega
/-- A byte behind a number. -/
theorem or_next {N y : Nat} (hN : N < 16777216) (hy : y < 256) : bits .or .i64 ((N : Int) * 256) (y : Int) = ((N * 256 + y : Nat) : Int) := by
  rw [show (N : Int) * 256 = ((N * 256 : Nat) : Int) by omega, i64_or_nat _ _ (by omega) (by omega)]
  congr 1
  have := Nat.two_pow_add_eq_or_of_lt (show y < 2 ^ 8 by omega) N
  rw [Nat.mul_comm, show (256 : Nat) = 2 ^ 8 from rfl, ← this]
def NumP (w : World) (r s : Nat) (l : List Int) (bad : Bool) (e : Ending) (w' : World) : Prop :=
  e = .returned (.int .i64 (numR s (l, bad)).1) ∧ Rdr w' r (numR s (l, bad)).2.1 (numR s (l, bad)).2.2 ∧ Keeps (fun k => k = r) w w'
theorem num_take {t : List Int} {k : Nat} (h : k < t.length) : num (t.take (k + 1)) = 256 * num (t.take k) + t.getD k 0 := by
  rw [List.take_succ_eq_append_getElem h, num_snoc, List.getD_eq_getElem?_getD, List.getElem?_eq_getElem h]; rfl
theorem num_ex {t : List Int} (hb : Byt t) {k : Nat} (h : k < t.length) (h4 : t.length ≤ 4) : ∃ N y : Nat, num (t.take k) = N ∧ t.getD k 0 = y ∧ N < 16777216 ∧ y < 256 ∧ num (t.take (k + 1)) = ((N * 256 + y : Nat) : Int) := by
  have h1 := num_bd (t.take k) fun x hx => hb x (List.mem_of_mem_take hx)
  have h2 : t.getD k 0 = t[k] := by rw [List.getD_eq_getElem?_getD, List.getElem?_eq_getElem h]; rfl
  have h3 := hb t[k] (List.getElem_mem h)
  have h5 : (256 : Int) ^ (t.take k).length ≤ 16777216 := by
    rw [List.length_take, Nat.min_eq_left (by omega)]
    have hk : k ≤ 3 := by omega
    match k, hk with
    | 0, _ | 1, _ | 2, _ | 3, _ => decide
  have h6 := num_take h
  refine ⟨(num (t.take k)).toNat, (t.getD k 0).toNat, by omega, by omega, by omega, by omega, ?_⟩
  rw [h6]; omega
set_option maxRecDepth 100000 in
set_option maxHeartbeats 2000000 in
theorem number44 (w : World) (r s : Nat) (l : List Int) (bad : Bool) (h : Rdr w r l bad) (hs : 1 ≤ s) (hs4 : s ≤ 4) :
    Calls Tryz.prog 30 #[.pointer (some ⟨r, 0, none⟩), .int .i64 s] w (NumP w r s l bad) := by
  have H := Lib.hid h
  clear h
  go_enter Tryz.func30, Tryz.ntmps30
  go_wp2_with fail
  refine (take83 w r s l bad H.out hs (by omega)).mono ?_
  rintro e w1 ⟨b, off, c, rfl, hc, hb, hbr, hcell, hr, hk⟩
  have HR : Hid (Rdr w1 r (numR s (l, bad)).2.1 (numR s (l, bad)).2.2) := Lib.hid hr
  have HK := Lib.hid hk
  have HE : Hid ((numR s (l, bad)).1 = num (takeR s (l, bad)).1) := Lib.hid rfl
  have HB := Lib.hid (take_byt1 (m := s) (st := (l, bad)) H.out.byt)
  have HL := Lib.hid (take_len s (l, bad))
  obtain ⟨t, ht⟩ : ∃ t, t = (takeR s (l, bad)).1 := ⟨_, rfl⟩
  rw [← ht] at hcell HE HB HL
  have HC := Lib.hid hcell
  clear hr hk hcell ht
  go_wp2_with fail
  go_loop [5, 12] (fun x i => ∃ k : Nat, k ≤ s ∧ i = .int .i64 k ∧ ∃ N : Nat, x = .int .i64 N ∧ num (t.take k) = N) (fun _ i => s - (intOf i).toNat)
  case atStart => exact ⟨0, Nat.zero_le _, rfl, 0, rfl, rfl⟩
  case round =>
    obtain ⟨k, hk, rfl, N, rfl, hN⟩ := hrel
    by_cases hlt : k < s
    · have hck := HC.out k hlt
      obtain ⟨N', y, h1, h2, h3, h4, h5⟩ := num_ex HB.out (k := k) (by rw [HL.out]; exact hlt) (by rw [HL.out]; exact hs4)
      obtain rfl : N = N' := by omega
      rw [h2] at hck
      have eo := or_next h3 h4
      obtain ⟨Z, hZ⟩ : ∃ Z, Z = N * 256 + y := ⟨_, rfl⟩
      rw [← hZ] at eo h5
      have H5 := Lib.hid h5
      have j1 : (0 : Int) ≤ k := by omega
      have j2 : (k : Int) < s := by omega
      clear hN h1 h2 h5 hZ
      go_wp2_with fail
      go_round
      case rel => exact ⟨k + 1, by omega, by go_num, Z, rfl, H5.out⟩
      case measure => simp [intOf]; omega
    · obtain rfl : k = s := by omega
      have e1 : (numR k (l, bad)).1 = N := by rw [HE.out, ← hN, List.take_of_length_le (by rw [HL.out]; exact Nat.le_refl _)]
      have E1 := Lib.hid e1
      clear e1 hN
      go_wp2_with fail
      go_ret
      exact ⟨ret_int E1.out.symm, HR.out, HK.out⟩
def zK : List Value := List.replicate 32 (.int .u8 0)
theorem zeroVK (u : World) : (zeroValue 44).run Tryz.prog u = .ok (.agg zK.toArray) u := by kernel_rfl
theorem zK_len : zK.length = 32 := rfl
theorem arrayAtK (A : Option Addr) (l c : Nat) (h : 32 ≤ l) (u : World) : (Instr.arrayAt 44 (.slice A l c)).run Tryz.prog u = .ok (.pointer A) u := by
  simp [Instr.arrayAt, run_underlying Tryz.underlying44, Result.andThen]
  omega
theorem u8l_at (t : List Int) (j : Nat) (v : Value) (h : (u8l t)[j]? = some v) : j < t.length ∧ v = .int .u8 (t.getD j 0) := by
  unfold u8l at h
  rw [List.getElem?_map] at h
  cases ht : t[j]? with
  | none => rw [ht] at h; cases h
  | some x =>
    rw [ht] at h
    cases h
    exact ⟨(List.getElem?_eq_some_iff.1 ht).1, by rw [List.getD_eq_getElem?_getD, ht]; rfl⟩
def KeyP (w : World) (r : Nat) (l : List Int) (bad : Bool) (e : Ending) (w' : World) : Prop :=
  e = .returned (kv (takeR 32 (l, bad)).1) ∧ KeyOk 32 (takeR 32 (l, bad)).1 ∧ Rdr w' r (takeR 32 (l, bad)).2.1 (takeR 32 (l, bad)).2.2 ∧ Keeps (fun k => k = r) w w'
set_option maxRecDepth 100000 in
set_option maxHeartbeats 2000000 in
theorem key84 (w : World) (r : Nat) (l : List Int) (bad : Bool) (h : Rdr w r l bad) :
    Calls Tryz.prog 50 #[.pointer (some ⟨r, 0, none⟩)] w (KeyP w r l bad) := by
  have H := Lib.hid h
  clear h
  go_enter Tryz.func50, Tryz.ntmps50
  go_wp2_with (refine wpList_laid rfl 44 rfl zK (zeroVK _) ?_)
  obtain ⟨w0, hw0⟩ : ∃ w0, w0 = w.alloc (.cells zK.toArray 44) := ⟨_, rfl⟩
  have K0 : Hid (Keeps (fun k => k = r) w w0) := Lib.hid (by rw [hw0]; exact Keeps.alloc _ _ _)
  have H0 : Hid (w0.heap[w.heap.size]? = some (.cells zK.toArray 44 (0, 0))) := Lib.hid (by rw [hw0]; exact heap_new w _)
  have R0 : Hid (Rdr w0 r l bad) := Lib.hid (by rw [hw0]; exact H.out.keeps (Keeps.alloc (fun _ => False) _ _) fun _ _ h => h)
  rw [← hw0]
  obtain ⟨q, hq⟩ : ∃ q, q = w.heap.size := ⟨_, rfl⟩
  rw [← hq] at H0 ⊢
  have HQ : Hid (w.heap.size = q) := Lib.hid hq.symm
  have HRQ : Hid (r < q) := Lib.hid (by rw [hq]; exact H.out.lt)
  clear hw0 hq
  go_wp2_with fail
  refine (take83 w0 r 32 l bad R0.out (by omega) (by omega)).mono ?_
  rintro e w1 ⟨b, off, c, rfl, hc, hb, hbr, hcell, hr, hk⟩
  have H1 := Lib.hid (hk.heap H0.out (by have := HRQ.out; omega))
  have R1 := Lib.hid hr
  have K1 := Lib.hid (K0.out.trans hk fun _ _ h => h)
  have hkey : KeyOk 32 (takeR 32 (l, bad)).1 := ⟨take_len _ _, take_byt1 H.out.byt⟩
  have HKEY := Lib.hid hkey
  have HRA : Hid (w1.rangeAt b off (u8l (takeR 32 (l, bad)).1)) := Lib.hid fun j v hj => by
    obtain ⟨h1, rfl⟩ := u8l_at _ _ _ hj
    exact hcell j (by rw [take_len] at h1; exact h1)
  have HSZ : Hid ((Tryz.prog.info? 44).map (·.size) = some (u8l (takeR 32 (l, bad)).1).length) := Lib.hid (by rw [u8l_len, hkey.len]; exact infoKey)
  have HON := Lib.hid (u8l_one (takeR 32 (l, bad)).1)
  have HLN : Hid (0 + (u8l (takeR 32 (l, bad)).1).length ≤ zK.length) := Lib.hid (by rw [u8l_len, hkey.len, zK_len]; omega)
  have HSP : Hid (∀ q', splice zK 0 (u8l (takeR 32 (l, bad)).1) = q' → q' = u8l (takeR 32 (l, bad)).1) := Lib.hid fun q' e => by rw [← e]; exact splice_whole _ _ (by rw [u8l_len, hkey.len, zK_len])
  have HKV : Hid (kv (takeR 32 (l, bad)).1 = .agg (u8l (takeR 32 (l, bad)).1).toArray) := Lib.hid rfl
  obtain ⟨cs, hcs⟩ : ∃ cs, cs = u8l (takeR 32 (l, bad)).1 := ⟨_, rfl⟩
  rw [← hcs] at HRA HSZ HON HLN HSP HKV
  have a60 := fun u => arrayAtK (some ⟨b, off, none⟩) 32 c (Nat.le_refl _) u
  clear hcell hr hk hkey hcs
  go_wp2_with (first | (refine wpList_load_midG rfl 44 (.tmp 5) rfl b off rfl cs _ HRA.out Tryz.underlying44 rfl HSZ.out ?_) | (refine wpList_store_segK rfl 44 (.tmp 2) (.tmp 6) rfl q 0 rfl cs rfl zK 44 H1.out HSZ.out HLN.out HON.out rfl ?_; intro w3 h3 k3 s3))
  rw [HSP.out _ rfl] at h3
  have hz : w3.rangeAt q 0 cs := fun j v hj => block_cell h3 _ v (by rw [Nat.zero_add]; simpa using hj)
  refine bodyPost_ret (results_cell_one rfl _ _ q _ _ rfl hz Tryz.underlying44 rfl HSZ.out) rfl ?_
  have hq := HQ.out
  have hrq := HRQ.out
  refine ⟨by rw [HKV.out], HKEY.out, R1.out.keeps k3 (fun k h1 h2 => by omega), ?_⟩
  exact ⟨k3.os.trans K1.out.os, k3.tape.trans K1.out.tape, k3.output.trans K1.out.output, Nat.le_trans K1.out.size k3.size, fun k hk hn => (k3.block k (Nat.lt_of_lt_of_le hk K1.out.size) (fun e => by have e : k = q := e; omega)).trans (K1.out.block k hk hn)⟩
end Go.Proofs.YthdllbbjajddiaaGreatDoor
namespace Go.Proofs.YthdllbbjajddiaaGreatDoor
open Go.RowKit Go.Maps Go.WideMaps
theorem len32 : ∀ (l : List Int), l.length = 32 → ∃ a0 a1 a2 a3 a4 a5 a6 a7 a8 a9 a10 a11 a12 a13 a14 a15 a16 a17 a18 a19 a20 a21 a22 a23 a24 a25 a26 a27 a28 a29 a30 a31, l = [a0, a1, a2, a3, a4, a5, a6, a7, a8, a9, a10, a11, a12, a13, a14, a15, a16, a17, a18, a19, a20, a21, a22, a23, a24, a25, a26, a27, a28, a29, a30, a31] := by
  intro l h
  match l, h with
  | [a0, a1, a2, a3, a4, a5, a6, a7, a8, a9, a10, a11, a12, a13, a14, a15, a16, a17, a18, a19, a20, a21, a22, a23, a24, a25, a26, a27, a28, a29, a30, a31], _ => exact ⟨a0, a1, a2, a3, a4, a5, a6, a7, a8, a9, a10, a11, a12, a13, a14, a15, a16, a17, a18, a19, a20, a21, a22, a23, a24, a25, a26, a27, a28, a29, a30, a31, rfl⟩
theorem buildF0 (k : List Int) (hk : k.length = 32) (u : World) : BuildRun Tryz.prog 53 #[(0, kv k)] u (.agg (frC ⟨k, 0, 0, 0, 0⟩).toArray) := by
  obtain ⟨a0, a1, a2, a3, a4, a5, a6, a7, a8, a9, a10, a11, a12, a13, a14, a15, a16, a17, a18, a19, a20, a21, a22, a23, a24, a25, a26, a27, a28, a29, a30, a31, rfl⟩ := len32 k hk
  exact ⟨by kernel_rfl⟩
theorem buildP0 (x : Int) (u : World) : BuildRun Tryz.prog 48 #[(0, .int .i64 x)] u (.agg (puC ⟨x, List.replicate 32 0, 0, 0⟩).toArray) := ⟨by kernel_rfl⟩
def zF : List Value := frC ⟨List.replicate 32 0, 0, 0, 0, 0⟩
def zP : List Value := puC ⟨0, List.replicate 32 0, 0, 0⟩
theorem zF_len : zF.length = 36 := rfl
theorem zP_len : zP.length = 35 := rfl
theorem zeroVF (u : World) : (zeroValue 53).run Tryz.prog u = .ok (.agg zF.toArray) u := by kernel_rfl
theorem zeroVP (u : World) : (zeroValue 48).run Tryz.prog u = .ok (.agg zP.toArray) u := by kernel_rfl
theorem infoFz : (Tryz.prog.info? 53).map (fun i => (i.zero, i.size, i.bytes)) = some (some (.agg zF.toArray), 36, 64) := by kernel_rfl
theorem infoPz : (Tryz.prog.info? 48).map (fun i => (i.zero, i.size, i.bytes)) = some (some (.agg zP.toArray), 35, 56) := by kernel_rfl
theorem frC_len {f : Fr} (h : f.k.length = 32) : (frC f).length = 36 := by simp [frC, u8l_len, h]
theorem puC_len {p : Pu} (h : p.k.length = 32) : (puC p).length = 35 := by simp [puC, u8l_len, h]
theorem frC_one (f : Fr) : ∀ v ∈ frC f, v.oneCell' = true := by
  intro v hv
  simp only [frC, List.mem_append] at hv
  rcases hv with hv | hv
  · exact u8l_one _ v hv
  · simp at hv; rcases hv with rfl | rfl | rfl | rfl <;> rfl
theorem puC_one (p : Pu) : ∀ v ∈ puC p, v.oneCell' = true := by
  intro v hv
  simp only [puC, List.mem_append] at hv
  rcases hv with hv | hv | hv
  · obtain rfl := List.mem_singleton.1 hv; rfl
  · exact u8l_one _ v hv
  · simp at hv; rcases hv with rfl | rfl <;> rfl
theorem frC_set {k : List Int} (hk : k.length = 32) (a n u : Int) : (((frC ⟨k, 0, 0, 0, 0⟩).set 32 (.int .i64 a)).set 33 (.int .i64 n)).set 34 (.int .i64 u) = frC ⟨k, a, n, u, 0⟩ := by
  simp [frC, List.set_append, u8l_len, hk]
theorem puC_set {k : List Int} (hk : k.length = 32) (x o m : Int) : ((puC ⟨x, k, 0, 0⟩).set 33 (.int .i64 o)).set 34 (.int .i64 m) = puC ⟨x, k, o, m⟩ := by
  simp [puC, List.set_append, u8l_len, hk]
theorem puC_key {k : List Int} (hk : k.length = 32) (x : Int) : splice (puC ⟨x, List.replicate 32 0, 0, 0⟩) 1 (u8l k) = puC ⟨x, k, 0, 0⟩ := by
  unfold splice
  simp [puC, u8l_len, hk, u8l]
theorem zF_at32 {k : List Int} (hk : k.length = 32) : (frC ⟨k, 0, 0, 0, 0⟩)[32]? = some (.int .i64 0) := by
  rw [frC, List.getElem?_append_right (by rw [u8l_len]; dsimp only; omega), u8l_len, hk]; rfl
theorem zF_at33 {k : List Int} (hk : k.length = 32) : (frC ⟨k, 0, 0, 0, 0⟩)[33]? = some (.int .i64 0) := by
  rw [frC, List.getElem?_append_right (by rw [u8l_len]; dsimp only; omega), u8l_len, hk]; rfl
theorem zF_at34 {k : List Int} (hk : k.length = 32) : (frC ⟨k, 0, 0, 0, 0⟩)[34]? = some (.int .i64 0) := by
  rw [frC, List.getElem?_append_right (by rw [u8l_len]; dsimp only; omega), u8l_len, hk]; rfl
theorem pu_at33 {k : List Int} {x : Int} (hk : k.length = 32) : (puC ⟨x, k, 0, 0⟩)[33]? = some (.int .i64 0) := by
  rw [puC, List.getElem?_append_right (by simp), List.length_singleton, List.getElem?_append_right (by rw [u8l_len]; dsimp only; omega), u8l_len, hk]; rfl
theorem pu_at34 {k : List Int} {x : Int} (hk : k.length = 32) : (puC ⟨x, k, 0, 0⟩)[34]? = some (.int .i64 0) := by
  rw [puC, List.getElem?_append_right (by simp), List.length_singleton, List.getElem?_append_right (by rw [u8l_len]; dsimp only; omega), u8l_len, hk]; rfl
theorem num_wf {s : Nat} {st : Rd} (h : Byt st.1) (hs : s ≤ 4) : (Lit.int .i64 (numR s st).1).wf = true := by
  have h1 := num_bd (takeR s st).1 (take_byt1 h)
  rw [take_len] at h1
  have h5 : (256 : Int) ^ s ≤ 4294967296 := by
    match s, hs with
    | 0, _ | 1, _ | 2, _ | 3, _ | 4, _ => decide
  have e : (numR s st).1 = num (takeR s st).1 := rfl
  rw [e]
  exact wf_i64 ⟨by omega, by omega⟩
theorem fresh_ok {st : Rd} (h : Byt st.1) : OkFr (freshR st).1 :=
  ⟨⟨take_len _ _, take_byt1 h⟩, num_wf (take_byt h) (by omega), num_wf (num_byt (take_byt h)) (by omega), num_wf (num_byt (num_byt (take_byt h))) (by omega), wf00⟩
theorem put_ok {st : Rd} (h : Byt st.1) : OkPu (putR st).1 :=
  ⟨num_wf h (by omega), ⟨take_len _ _, take_byt1 (num_byt h)⟩, num_wf (take_byt (num_byt h)) (by omega), num_wf (num_byt (take_byt (num_byt h))) (by omega)⟩
def FreshP (w : World) (r : Nat) (st : Rd) (e : Ending) (w' : World) : Prop :=
  e = .returned (.agg (frC (freshR st).1).toArray) ∧ Rdr w' r (freshR st).2.1 (freshR st).2.2 ∧ Keeps (fun k => k = r) w w'
def PutP (w : World) (r : Nat) (st : Rd) (e : Ending) (w' : World) : Prop :=
  e = .returned (.agg (puC (putR st).1).toArray) ∧ Rdr w' r (putR st).2.1 (putR st).2.2 ∧ Keeps (fun k => k = r) w w'
theorem Keeps.drop {w w1 w2 : World} {r q : Nat} (h1 : Keeps (fun k => k = r) w w1) (h2 : Keeps (fun k => k = q) w1 w2) (hq : w.heap.size ≤ q) : Keeps (fun k => k = r) w w2 :=
  h1.trans h2 fun i hi e => by have e : i = q := e; omega
def NumE (w : World) (r s : Nat) (st : Rd) (e : Ending) (w' : World) : Prop :=
  ∃ x s2, numR s st = (x, s2) ∧ e = .returned (.int .i64 x) ∧ Rdr w' r s2.1 s2.2 ∧ Keeps (fun k => k = r) w w'
theorem numE (w : World) (r s : Nat) (st : Rd) (h : Rdr w r st.1 st.2) (hs : 1 ≤ s) (hs4 : s ≤ 4) : Calls Tryz.prog 30 #[.pointer (some ⟨r, 0, none⟩), .int .i64 s] w (NumE w r s st) :=
  (number44 w r s st.1 st.2 h hs hs4).mono fun _ _ ⟨h1, h2, h3⟩ => ⟨_, _, rfl, h1, h2, h3⟩
def KeyE (w : World) (r : Nat) (st : Rd) (e : Ending) (w' : World) : Prop :=
  ∃ ks s2, takeR 32 st = (ks, s2) ∧ KeyOk 32 ks ∧ e = .returned (kv ks) ∧ Rdr w' r s2.1 s2.2 ∧ Keeps (fun k => k = r) w w'
theorem keyE (w : World) (r : Nat) (st : Rd) (h : Rdr w r st.1 st.2) : Calls Tryz.prog 50 #[.pointer (some ⟨r, 0, none⟩)] w (KeyE w r st) :=
  (key84 w r st.1 st.2 h).mono fun _ _ ⟨h1, h2, h3, h4⟩ => ⟨_, _, rfl, h2, h1, h3, h4⟩
theorem freshR_eq {st s1 s2 s3 s4 : Rd} {ks : List Int} {a n u : Int} (h1 : takeR 32 st = (ks, s1)) (h2 : numR 4 s1 = (a, s2)) (h3 : numR 2 s2 = (n, s3)) (h4 : numR 1 s3 = (u, s4)) : freshR st = (⟨ks, a, n, u, 0⟩, s4) := by
  unfold freshR
  rw [h1]; dsimp only
  rw [h2]; dsimp only
  rw [h3]; dsimp only
  rw [h4]
theorem putR_eq {st s1 s2 s3 s4 : Rd} {ks : List Int} {x o m : Int} (h1 : numR 2 st = (x, s1)) (h2 : takeR 32 s1 = (ks, s2)) (h3 : numR 1 s2 = (o, s3)) (h4 : numR 1 s3 = (m, s4)) : putR st = (⟨x, ks, o, m⟩, s4) := by
  unfold putR
  rw [h1]; dsimp only
  rw [h2]; dsimp only
  rw [h3]; dsimp only
  rw [h4]
set_option maxRecDepth 100000 in
set_option maxHeartbeats 4000000 in
theorem fresh46 (w : World) (r : Nat) (st : Rd) (h : Rdr w r st.1 st.2) :
    Calls Tryz.prog 32 #[.pointer (some ⟨r, 0, none⟩)] w (FreshP w r st) := by
  have H := Lib.hid h
  have HRL := h.lt
  clear h
  go_enter Tryz.func32, Tryz.ntmps32
  go_wp2_with (refine wpList_laid rfl 53 rfl zF (zeroVF _) ?_)
  obtain ⟨w0, hw0⟩ : ∃ w0, w0 = w.alloc (.cells zF.toArray 53) := ⟨_, rfl⟩
  have K0 : Hid (Keeps (fun k => k = r) w w0) := Lib.hid (by rw [hw0]; exact Keeps.alloc _ _ _)
  have H0 : Hid (w0.heap[w.heap.size]? = some (.cells zF.toArray 53 (0, 0))) := Lib.hid (by rw [hw0]; exact heap_new w _)
  have R0 : Hid (Rdr w0 r st.1 st.2) := Lib.hid (by rw [hw0]; exact H.out.keeps (Keeps.alloc (fun _ => False) _ _) fun _ _ h => h)
  rw [← hw0]
  obtain ⟨q, hq⟩ : ∃ q, q = w.heap.size := ⟨_, rfl⟩
  rw [← hq] at H0 ⊢
  have HQ : Hid (w.heap.size = q) := Lib.hid hq.symm
  have HRQ : r < q := by rw [hq]; exact HRL
  clear hw0 hq HRL
  go_wp2_with fail
  refine (keyE w0 r st R0.out).mono ?_
  rintro e w1 ⟨ks, s1, he, hkk, rfl, hr, hk⟩
  have H1 := Lib.hid (hk.heap H0.out (by omega))
  have R1 := Lib.hid hr
  have K1 := Lib.hid (K0.out.trans hk fun _ _ h => h)
  have E1 := Lib.hid he
  clear hr hk he
  have HKK := Lib.hid hkk
  have B0 := Lib.hid (buildF0 ks hkk.len)
  have L0 := Lib.hid (frC_len (f := ⟨ks, 0, 0, 0, 0⟩) hkk.len)
  have O0 := Lib.hid (frC_one ⟨ks, 0, 0, 0, 0⟩)
  obtain ⟨c0, hc0⟩ : ∃ c0, c0 = frC ⟨ks, 0, 0, 0, 0⟩ := ⟨_, rfl⟩
  rw [← hc0] at B0 L0 O0
  have HC0 := Lib.hid hc0
  have SZ0 : Hid ((Tryz.prog.info? 53).map (·.size) = some c0.length) := Lib.hid (by rw [L0.out]; exact infoF)
  have ZL : Hid (zF.length = c0.length) := Lib.hid (by rw [L0.out]; rfl)
  clear hkk hc0
  go_upto_region 2 with (first | (refine wpList_buildG rfl 53 [(0, .tmp 5)] rfl [(0, kv ks)] rfl _ (B0.out _) ?_) | (refine wpList_boxed rfl 53 3 rfl rfl zF (zeroVF _) (.tmp 6) rfl rfl rfl c0 rfl rfl SZ0.out ZL.out O0.out ?_; intro w2 hb2 hh2 hs2))
  obtain ⟨p, hp⟩ : ∃ p, p = w1.heap.size := ⟨_, rfl⟩
  rw [← hp] at hh2 ⊢
  have HQP : q < p := by rw [hp]; exact heap_lt H1.out
  have HP2 := Lib.hid hh2
  have R2 := Lib.hid (R1.out.fresh hb2)
  have K2 := Lib.hid (K1.out.trans (Keeps.fresh (S := fun k => k = r) hb2) fun _ _ h => h)
  have H2 := Lib.hid ((hb2.block q (heap_lt H1.out)).trans H1.out)
  clear hb2 hh2 hs2 hp
  go_wp2_with fail
  refine (numE w2 r 4 s1 R2.out (by omega) (by omega)).mono ?_
  rintro e w3 ⟨a, s2, he, rfl, hr, hk⟩
  have H3 := Lib.hid (hk.heap H2.out (by omega))
  have HP3 := Lib.hid (hk.heap HP2.out (by omega))
  have R3 := Lib.hid hr
  have K3 := Lib.hid (K2.out.trans hk fun _ _ h => h)
  have E2 := Lib.hid he
  clear hr hk he
  go_wp2_with fail
  refine (numE w3 r 2 s2 R3.out (by omega) (by omega)).mono ?_
  rintro e w4 ⟨n, s3, he, rfl, hr, hk⟩
  have H4 := Lib.hid (hk.heap H3.out (by omega))
  have HP4 := Lib.hid (hk.heap HP3.out (by omega))
  have R4 := Lib.hid hr
  have K4 := Lib.hid (K3.out.trans hk fun _ _ h => h)
  have E3 := Lib.hid he
  clear hr hk he
  go_wp2_with fail
  refine (numE w4 r 1 s3 R4.out (by omega) (by omega)).mono ?_
  rintro e w5 ⟨u, s4, he, rfl, hr, hk⟩
  have H5 := Lib.hid (hk.heap H4.out (by omega))
  have HP5 := Lib.hid (hk.heap HP4.out (by omega))
  have R5 := Lib.hid hr
  have K5 := Lib.hid (K4.out.trans hk fun _ _ h => h)
  have E4 := Lib.hid he
  clear hr hk he
  have EQ := Lib.hid (freshR_eq E1.out E2.out E3.out E4.out)
  have OK := Lib.hid (fresh_ok (st := st) H.out.byt)
  rw [EQ.out] at OK
  have d32 : w5.cell? ⟨p, 32, none⟩ = some (.int .i64 0) := block_cell HP5.out 32 _ (by rw [List.getElem?_toArray, HC0.out]; exact zF_at32 HKK.out.len)
  have f32 : w5.frozen? ⟨p, 32, none⟩ = false := frozen_of_row w5 _ _ _ _ HP5.out
  have d33 : w5.cell? ⟨p, 33, none⟩ = some (.int .i64 0) := block_cell HP5.out 33 _ (by rw [List.getElem?_toArray, HC0.out]; exact zF_at33 HKK.out.len)
  have f33 : w5.frozen? ⟨p, 33, none⟩ = false := frozen_of_row w5 _ _ _ _ HP5.out
  have d34 : w5.cell? ⟨p, 34, none⟩ = some (.int .i64 0) := block_cell HP5.out 34 _ (by rw [List.getElem?_toArray, HC0.out]; exact zF_at34 HKK.out.len)
  have f34 : w5.frozen? ⟨p, 34, none⟩ = false := frozen_of_row w5 _ _ _ _ HP5.out
  obtain ⟨w6, hw6⟩ : ∃ w6, w6 = ((w5.setCell ⟨p, 32, none⟩ (.int .i64 a)).setCell ⟨p, 33, none⟩ (.int .i64 n)).setCell ⟨p, 34, none⟩ (.int .i64 u) := ⟨_, rfl⟩
  have HP6 : Hid (w6.heap[p]? = some (.cells (frC ⟨ks, a, n, u, 0⟩).toArray 53 (0, 0))) := Lib.hid (by
    rw [hw6, ← frC_set HKK.out.len, ← HC0.out]
    exact (set_blk (o := 34) (set_blk (o := 33) (set_blk (o := 32) HP5.out))))
  have K6 : Hid (Keeps (fun k => k = p) w5 w6) := Lib.hid (by rw [hw6]; exact (((Keeps.setCell (fun k => k = p) w5 ⟨p, 32, none⟩ _ rfl).trans (Keeps.setCell (fun k => k = p) _ ⟨p, 33, none⟩ _ rfl) fun _ _ h => h).trans (Keeps.setCell (fun k => k = p) _ ⟨p, 34, none⟩ _ rfl) fun _ _ h => h))
  have hw6' := hw6.symm
  have L6 : Hid ((frC ⟨ks, a, n, u, 0⟩).length = 36) := Lib.hid (frC_len HKK.out.len)
  have O6 := Lib.hid (frC_one ⟨ks, a, n, u, 0⟩)
  have EE : Hid (((freshR st).1) = ⟨ks, a, n, u, 0⟩) := Lib.hid (by rw [EQ.out])
  obtain ⟨cs, hcs⟩ : ∃ cs, cs = frC ⟨ks, a, n, u, 0⟩ := ⟨_, rfl⟩
  rw [← hcs] at HP6 L6 O6
  have HCS := Lib.hid hcs
  have RA : Hid (w6.rangeAt p 0 cs) := Lib.hid fun j v hj => block_cell HP6.out _ v (by rw [Nat.zero_add]; simpa using hj)
  have SZ : Hid ((Tryz.prog.info? 53).map (·.size) = some cs.length) := Lib.hid (by rw [L6.out]; exact infoF)
  have H6 := Lib.hid (K6.out.heap H5.out (by omega))
  have FIT : Hid (0 + cs.length ≤ zF.length) := Lib.hid (by rw [L6.out, zF_len]; omega)
  have SPL : Hid (splice zF 0 cs = cs) := Lib.hid (splice_whole _ _ (by rw [L6.out]; rfl))
  clear hw6 hcs
  go_upto_region 3 with fail
  clear d32 f32 d33 f33 d34 f34 hw6'
  go_wp2_with (first | (refine wpList_load_midG rfl 53 (.tmp 3) rfl p 0 rfl cs _ RA.out Tryz.underlying53 rfl SZ.out ?_) | (refine wpList_store_segK rfl 53 (.tmp 2) (.tmp 19) rfl q 0 rfl cs rfl zF 53 H6.out SZ.out FIT.out O6.out rfl ?_; intro w7 h7 k7 s7))
  rw [SPL.out] at h7
  have hz : w7.rangeAt q 0 cs := fun j v hj => block_cell h7 _ v (by rw [Nat.zero_add]; simpa using hj)
  refine bodyPost_ret (results_cell_one rfl _ _ q _ _ rfl hz Tryz.underlying53 rfl SZ.out) rfl ?_
  have hq := HQ.out
  refine ⟨by rw [EE.out, HCS.out], ?_, ?_⟩
  · rw [EQ.out]
    exact (R5.out.keeps K6.out fun k h1 h2 => by omega).keeps k7 fun k h1 h2 => by omega
  · exact (K5.out.drop K6.out (by omega)).drop k7 (by omega)
/- put. -/
set_option maxRecDepth 100000 in
set_option maxHeartbeats 4000000 in
theorem put48 (w : World) (r : Nat) (st : Rd) (h : Rdr w r st.1 st.2) :
    Calls Tryz.prog 34 #[.pointer (some ⟨r, 0, none⟩)] w (PutP w r st) := by
  have H := Lib.hid h
  have HRL := h.lt
  clear h
  go_enter Tryz.func34, Tryz.ntmps34
  go_wp2_with (refine wpList_laid rfl 48 rfl zP (zeroVP _) ?_)
  obtain ⟨w0, hw0⟩ : ∃ w0, w0 = w.alloc (.cells zP.toArray 48) := ⟨_, rfl⟩
  have K0 : Hid (Keeps (fun k => k = r) w w0) := Lib.hid (by rw [hw0]; exact Keeps.alloc _ _ _)
  have H0 : Hid (w0.heap[w.heap.size]? = some (.cells zP.toArray 48 (0, 0))) := Lib.hid (by rw [hw0]; exact heap_new w _)
  have R0 : Hid (Rdr w0 r st.1 st.2) := Lib.hid (by rw [hw0]; exact H.out.keeps (Keeps.alloc (fun _ => False) _ _) fun _ _ h => h)
  rw [← hw0]
  obtain ⟨q, hq⟩ : ∃ q, q = w.heap.size := ⟨_, rfl⟩
  rw [← hq] at H0 ⊢
  have HQ : Hid (w.heap.size = q) := Lib.hid hq.symm
  have HRQ : r < q := by rw [hq]; exact HRL
  clear hw0 hq HRL
  go_wp2_with fail
  refine (numE w0 r 2 st R0.out (by omega) (by omega)).mono ?_
  rintro e w1 ⟨x, s1, he, rfl, hr, hk⟩
  have H1 := Lib.hid (hk.heap H0.out (by omega))
  have R1 := Lib.hid hr
  have K1 := Lib.hid (K0.out.trans hk fun _ _ h => h)
  have E1 := Lib.hid he
  clear hr hk he
  have B0 := Lib.hid (buildP0 x)
  have L0 := Lib.hid (puC_len (p := ⟨x, List.replicate 32 0, 0, 0⟩) (by simp))
  have O0 := Lib.hid (puC_one ⟨x, List.replicate 32 0, 0, 0⟩)
  obtain ⟨c0, hc0⟩ : ∃ c0, c0 = puC ⟨x, List.replicate 32 0, 0, 0⟩ := ⟨_, rfl⟩
  rw [← hc0] at B0 L0 O0
  have HC0 := Lib.hid hc0
  have SZ0 : Hid ((Tryz.prog.info? 48).map (·.size) = some c0.length) := Lib.hid (by rw [L0.out]; exact infoP)
  have ZL : Hid (zP.length = c0.length) := Lib.hid (by rw [L0.out]; rfl)
  clear hc0
  go_upto_region 2 with (first | (refine wpList_buildG rfl 48 [(0, .tmp 5)] rfl [(0, .int .i64 x)] rfl _ (B0.out _) ?_) | (refine wpList_boxed rfl 48 3 rfl rfl zP (zeroVP _) (.tmp 6) rfl rfl rfl c0 rfl rfl SZ0.out ZL.out O0.out ?_; intro w2 hb2 hh2 hs2))
  obtain ⟨p, hp⟩ : ∃ p, p = w1.heap.size := ⟨_, rfl⟩
  rw [← hp] at hh2 ⊢
  have HQP : q < p := by rw [hp]; exact heap_lt H1.out
  have HP2 := Lib.hid hh2
  have R2 := Lib.hid (R1.out.fresh hb2)
  have K2 := Lib.hid (K1.out.trans (Keeps.fresh (S := fun k => k = r) hb2) fun _ _ h => h)
  have H2 := Lib.hid ((hb2.block q (heap_lt H1.out)).trans H1.out)
  clear hb2 hh2 hs2 hp
  go_wp2_with fail
  refine (keyE w2 r s1 R2.out).mono ?_
  rintro e w3 ⟨ks, s2, he, hkk, rfl, hr, hk⟩
  have H3 := Lib.hid (hk.heap H2.out (by omega))
  have HP3 := Lib.hid (hk.heap HP2.out (by omega))
  have R3 := Lib.hid hr
  have K3 := Lib.hid (K2.out.trans hk fun _ _ h => h)
  have E2 := Lib.hid he
  have HKK := Lib.hid hkk
  have SK : Hid ((Tryz.prog.info? 44).map (·.size) = some (u8l ks).length) := Lib.hid (by rw [u8l_len, hkk.len]; exact infoKey)
  have FK : Hid (1 + (u8l ks).length ≤ c0.length) := Lib.hid (by rw [u8l_len, hkk.len, L0.out]; omega)
  have OK1 := Lib.hid (u8l_one ks)
  have CK : Hid (splice c0 1 (u8l ks) = puC ⟨x, ks, 0, 0⟩) := Lib.hid (by rw [HC0.out]; exact puC_key hkk.len x)
  clear hr hk he hkk
  go_upto_region 3 with (refine wpList_store_segK rfl 44 (.tmp 10) (.tmp 8) rfl p 1 rfl (u8l ks) rfl c0 48 HP3.out SK.out FK.out OK1.out rfl ?_; intro w4 h4 k4 s4)
  rw [CK.out] at h4
  have HP4 := Lib.hid h4
  have R4 := Lib.hid (R3.out.keeps k4 fun k h1 h2 => by omega)
  have H4 := Lib.hid (k4.heap H3.out (by omega))
  have K4 := Lib.hid (K3.out.drop k4 (by have := HQ.out; omega))
  clear h4 k4 s4
  go_wp2_with fail
  refine (numE w4 r 1 s2 R4.out (by omega) (by omega)).mono ?_
  rintro e w5' ⟨o, s3, he, rfl, hr, hk⟩
  have H5' := Lib.hid (hk.heap H4.out (by omega))
  have HP5' := Lib.hid (hk.heap HP4.out (by omega))
  have R5' := Lib.hid hr
  have K5' := Lib.hid (K4.out.trans hk fun _ _ h => h)
  have E3 := Lib.hid he
  clear hr hk he
  go_wp2_with fail
  refine (numE w5' r 1 s3 R5'.out (by omega) (by omega)).mono ?_
  rintro e w5 ⟨m, s4, he, rfl, hr, hk⟩
  have H5 := Lib.hid (hk.heap H5'.out (by omega))
  have HP5 := Lib.hid (hk.heap HP5'.out (by omega))
  have R5 := Lib.hid hr
  have K5 := Lib.hid (K5'.out.trans hk fun _ _ h => h)
  have E4 := Lib.hid he
  clear hr hk he
  have EQ := Lib.hid (putR_eq E1.out E2.out E3.out E4.out)
  have OK := Lib.hid (put_ok (st := st) H.out.byt)
  rw [EQ.out] at OK
  have d33 : w5.cell? ⟨p, 33, none⟩ = some (.int .i64 0) := block_cell HP5.out 33 _ (by rw [List.getElem?_toArray]; exact pu_at33 HKK.out.len)
  have f33 : w5.frozen? ⟨p, 33, none⟩ = false := frozen_of_row w5 _ _ _ _ HP5.out
  have d34 : w5.cell? ⟨p, 34, none⟩ = some (.int .i64 0) := block_cell HP5.out 34 _ (by rw [List.getElem?_toArray]; exact pu_at34 HKK.out.len)
  have f34 : w5.frozen? ⟨p, 34, none⟩ = false := frozen_of_row w5 _ _ _ _ HP5.out
  obtain ⟨w6, hw6⟩ : ∃ w6, w6 = (w5.setCell ⟨p, 33, none⟩ (.int .i64 o)).setCell ⟨p, 34, none⟩ (.int .i64 m) := ⟨_, rfl⟩
  have HP6 : Hid (w6.heap[p]? = some (.cells (puC ⟨x, ks, o, m⟩).toArray 48 (0, 0))) := Lib.hid (by
    rw [hw6, ← puC_set HKK.out.len]
    exact (set_blk (o := 34) (set_blk (o := 33) HP5.out)))
  have K6 : Hid (Keeps (fun k => k = p) w5 w6) := Lib.hid (by rw [hw6]; exact ((Keeps.setCell (fun k => k = p) w5 ⟨p, 33, none⟩ _ rfl).trans (Keeps.setCell (fun k => k = p) _ ⟨p, 34, none⟩ _ rfl) fun _ _ h => h))
  have hw6' := hw6.symm
  have L6 : Hid ((puC ⟨x, ks, o, m⟩).length = 35) := Lib.hid (puC_len HKK.out.len)
  have O6 := Lib.hid (puC_one ⟨x, ks, o, m⟩)
  have EE : Hid (((putR st).1) = ⟨x, ks, o, m⟩) := Lib.hid (by rw [EQ.out])
  obtain ⟨cs, hcs⟩ : ∃ cs, cs = puC ⟨x, ks, o, m⟩ := ⟨_, rfl⟩
  rw [← hcs] at HP6 L6 O6
  have HCS := Lib.hid hcs
  have RA : Hid (w6.rangeAt p 0 cs) := Lib.hid fun j v hj => block_cell HP6.out _ v (by rw [Nat.zero_add]; simpa using hj)
  have SZ : Hid ((Tryz.prog.info? 48).map (·.size) = some cs.length) := Lib.hid (by rw [L6.out]; exact infoP)
  have H6 := Lib.hid (K6.out.heap H5.out (by omega))
  have FIT : Hid (0 + cs.length ≤ zP.length) := Lib.hid (by rw [L6.out, zP_len]; omega)
  have SPL : Hid (splice zP 0 cs = cs) := Lib.hid (splice_whole _ _ (by rw [L6.out]; rfl))
  clear hw6 hcs
  go_upto_region 4 with fail
  clear d33 f33 d34 f34 hw6'
  go_wp2_with (first | (refine wpList_load_midG rfl 48 (.tmp 3) rfl p 0 rfl cs _ RA.out Tryz.underlying48 rfl SZ.out ?_) | (refine wpList_store_segK rfl 48 (.tmp 2) (.tmp 19) rfl q 0 rfl cs rfl zP 48 H6.out SZ.out FIT.out O6.out rfl ?_; intro w7 h7 k7 s7))
  rw [SPL.out] at h7
  have hz : w7.rangeAt q 0 cs := fun j v hj => block_cell h7 _ v (by rw [Nat.zero_add]; simpa using hj)
  refine bodyPost_ret (results_cell_one rfl _ _ q _ _ rfl hz Tryz.underlying48 rfl SZ.out) rfl ?_
  have hq := HQ.out
  refine ⟨by rw [EE.out, HCS.out], ?_, ?_⟩
  · rw [EQ.out]
    exact (R5.out.keeps K6.out fun k h1 h2 => by omega).keeps k7 fun k h1 h2 => by omega
  · exact (K5.out.drop K6.out (by omega)).drop k7 (by omega)
end Go.Proofs.YthdllbbjajddiaaGreatDoor
