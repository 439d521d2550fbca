/- Keys told apart (layer 14, entry): the document's Compare; both tell the same. -/
import Derived.Test.YtmckngkmlhemoaaF
namespace Go.Proofs.Ytmckngkmlhemoaa
open Go.RowKit
/-- Which row of numbers stands ahead. -/
def cmpI : List Int → List Int → Int
  | [], [] => 0
  | [], _ :: _ => -1
  | _ :: _, [] => 1
  | x :: xs, y :: ys => if x < y then -1 else if y < x then 1 else cmpI xs ys
theorem u8_lt {x y : Int} (hx : 0 ≤ x ∧ x < 256) (hy : 0 ≤ y ∧ y < 256) : UInt8.ofNat x.toNat < UInt8.ofNat y.toNat ↔ x < y := by
  rw [UInt8.lt_iff_toNat_lt, UInt8.toNat_ofNat', UInt8.toNat_ofNat']
  omega
theorem cmpI_eq : ∀ (xs ys : List Int), (∀ v ∈ xs, 0 ≤ v ∧ v < 256) → (∀ v ∈ ys, 0 ≤ v ∧ v < 256) → Lib.compareBytes (Lib.bytesOf xs) (Lib.bytesOf ys) = cmpI xs ys
  | [], [], _, _ => rfl
  | [], _ :: _, _, _ => rfl
  | _ :: _, [], _, _ => rfl
  | x :: xs, y :: ys, hx, hy => by
    have ih := cmpI_eq xs ys (fun v hv => hx v (List.mem_cons_of_mem _ hv)) (fun v hv => hy v (List.mem_cons_of_mem _ hv))
    have h1 := hx x List.mem_cons_self
    have h2 := hy y List.mem_cons_self
    show (if UInt8.ofNat x.toNat < UInt8.ofNat y.toNat then (-1 : Int) else if UInt8.ofNat y.toNat < UInt8.ofNat x.toNat then 1 else Lib.compareBytes (Lib.bytesOf xs) (Lib.bytesOf ys)) = _
    rw [ih]
    simp only [u8_lt h1 h2, u8_lt h2 h1, cmpI]
theorem drop_cons {xs : List Int} {k : Nat} {x : Int} (h : xs[k]? = some x) : xs.drop k = x :: xs.drop (k + 1) := by
  obtain ⟨hk, rfl⟩ := List.getElem?_eq_some_iff.1 h
  exact List.drop_eq_getElem_cons hk
set_option maxRecDepth 100000 in
set_option maxHeartbeats 1000000 in
theorem compare15 (xs ys : List Int) (w : World) (hx : xs.length = 40) (hy : ys.length = 40) :
    Calls Try.prog 15 #[.agg (u8s xs), .agg (u8s ys)] w fun e w' => e = .returned (.int .i64 (cmpI xs ys)) ∧ Below w.heap.size w w' := by
  have HX := Lib.hid hx
  have HY := Lib.hid hy
  clear hx hy
  obtain ⟨a, ha⟩ : ∃ a, a = u8s xs := ⟨_, rfl⟩
  obtain ⟨b, hb⟩ : ∃ b, b = u8s ys := ⟨_, rfl⟩
  rw [← ha, ← hb]
  have HA := Lib.hid ha
  have HB := Lib.hid hb
  clear ha hb
  go_enter Try.func15, Try.ntmps15
  go_wp2_with fail
  obtain ⟨w2, hw2⟩ : ∃ w2, w2 = (w.alloc (.cells a 32)).alloc (.cells b 32) := ⟨_, rfl⟩
  rw [← hw2]
  obtain ⟨h, hh⟩ : ∃ h, h = w.heap.size := ⟨_, rfl⟩
  have H1 : Hid (w2.heap[h]? = some (.cells a 32)) := Lib.hid (by rw [hw2, hh]; exact heap_old (heap_new w _))
  have H2 : Hid (w2.heap[h + 1]? = some (.cells b 32)) := Lib.hid (by rw [hw2]; exact heap_new_at _ (by rw [hh]; simp))
  have HW : Hid (Below w.heap.size w w2) := Lib.hid (by rw [hw2]; exact ((Below.refl _ w).alloc (Nat.le_refl _) _).alloc (by simp) _)
  rw [← hh]
  clear hw2 hh
  go_loopw [5] (fun i wr => ∃ k : Nat, k ≤ 40 ∧ i = .int .i64 k ∧ cmpI xs ys = cmpI (xs.drop k) (ys.drop k) ∧ ∃ m, wr = w2.drewN m) (fun i _ => 40 - (intOf i).toNat)
  case atStart => exact ⟨0, Nat.zero_le _, rfl, rfl, 0, rfl⟩
  case round =>
    obtain ⟨k, hk, rfl, he, m, rfl⟩ := hrel
    have HE := Lib.hid he
    clear he
    by_cases hlt : k < 40
    · obtain ⟨x, hxk⟩ : ∃ x, xs[k]? = some x := ⟨_, List.getElem?_eq_getElem (by have := HX.out; omega)⟩
      obtain ⟨y, hyk⟩ : ∃ y, ys[k]? = some y := ⟨_, List.getElem?_eq_getElem (by have := HY.out; omega)⟩
      have c1 : w2.cell? ⟨h, k, none⟩ = some (.int .u8 x) := block_cell H1.out k _ (by rw [HA.out]; simp [u8s, hxk])
      have c2 : w2.cell? ⟨h + 1, k, none⟩ = some (.int .u8 y) := block_cell H2.out k _ (by rw [HB.out]; simp [u8s, hyk])
      have HD : Hid (cmpI xs ys = if x < y then -1 else if y < x then 1 else cmpI (xs.drop (k + 1)) (ys.drop (k + 1))) := Lib.hid (by
        rw [HE.out, drop_cons hxk, drop_cons hyk]; rfl)
      have j1 : (0 : Int) ≤ k := by omega
      have j2 : (k : Int) < 40 := by omega
      clear hxk hyk
      by_cases h1 : x < y
      · go_wp2_with fail
        go_quiet (fail)
        go_wp2_with fail
        go_ret
        exact ⟨ret_int (by rw [HD.out, if_pos h1]), by repeat (first | exact HW.out | refine below_drewN ?_ _)⟩
      · by_cases h2 : y < x
        · go_wp2_with fail
          go_quiet (fail)
          go_wp2_with fail
          go_quiet (fail)
          go_wp2_with fail
          go_ret
          exact ⟨ret_int (by rw [HD.out, if_neg (by omega), if_pos h2]), by repeat (first | exact HW.out | refine below_drewN ?_ _)⟩
        · go_wp2_with fail
          go_quiet (fail)
          go_wp2_with fail
          go_quiet (fail)
          go_wp2_with fail
          go_roundw
          case rel => exact ⟨k + 1, by omega, by go_num, by rw [HD.out, if_neg (by omega), if_neg (by omega)], _, rfl⟩
          case measure => simp [intOf]; omega
    · obtain rfl : k = 40 := by omega
      go_wp2_with fail
      go_ret
      refine ⟨ret_int ?_, below_drewN HW.out _⟩
      rw [HE.out, List.drop_eq_nil_of_le (by rw [HX.out]; exact Nat.le_refl _), List.drop_eq_nil_of_le (by rw [HY.out]; exact Nat.le_refl _)]
      rfl
end Go.Proofs.Ytmckngkmlhemoaa
