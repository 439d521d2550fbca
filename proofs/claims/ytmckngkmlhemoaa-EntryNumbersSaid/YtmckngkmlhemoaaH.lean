/- What is a right slice, a right item (layer 14, entry): the document's. -/
import Derived.Test.YtmckngkmlhemoaaB
import Derived.Test.YtmckngkmlhemoaaD
import Derived.Deep.MidRow
namespace Go.Proofs.Ytmckngkmlhemoaa
open Go.RowKit
set_option maxRecDepth 100000 in
theorem slice28 (cs : Array Value) (o m : Int) (w : World) (ho : cs[32]? = some (.int .i64 o)) (hm : cs[33]? = some (.int .i64 m)) :
    Calls Try.prog 28 #[.agg cs] w fun e w' => e = .returned (.bool (inB o 0 15 && inB m 1 255)) ∧ Below w.heap.size w w' := by
  have c1 : (w.alloc (.cells cs 28)).cell? ⟨w.heap.size, 32, none⟩ = some (.int .i64 o) := block_cell (heap_new w _) 32 _ ho
  have c2 : (w.alloc (.cells cs 28)).cell? ⟨w.heap.size, 33, none⟩ = some (.int .i64 m) := block_cell (heap_new w _) 33 _ hm
  have HW := Lib.hid ((Below.refl _ w).alloc (Nat.le_refl w.heap.size) (.cells cs 28))
  clear ho hm
  cases h1 : inB o 0 15 <;> cases h2 : inB m 1 255
  all_goals
    go_enter Try.func28, Try.ntmps28
    go_wp2_with (go_at_call 27; refine (within27 _ _ _ _).mono ?_; rintro e w' ⟨rfl, rfl⟩)
    go_ret
    exact ⟨rfl, HW.out⟩
/-- An item's cells: kind, key, place, snapshot, unit, slice. -/
structure ItemIs (cs : Array Value) (kind : Int) (key : List Value) (pa ps pu pr sn un : Int) (sl : List Value) (so sm : Int) : Prop where
  all : cs = (.int .u8 kind :: (key ++ [.int .i64 pa, .int .i64 ps, .int .i64 pu, .int .i64 pr, .int .i64 sn, .int .i64 un] ++ sl)).toArray
  key_len : key.length = 32
  sl_len : sl.length = 34
  off : sl[32]? = some (.int .i64 so)
  mask : sl[33]? = some (.int .i64 sm)
theorem info26 : (Try.prog.info? 26).map (·.size) = some 4 := by kernel_rfl
theorem info28 : (Try.prog.info? 28).map (·.size) = some 34 := by kernel_rfl
theorem info24 : (Try.prog.info? 24).map (·.size) = some 32 := by kernel_rfl
/-- Where an item lies, its parts lie. -/
theorem ItemIs.at_ {cs : Array Value} {kind : Int} {key : List Value} {pa ps pu pr sn un : Int} {sl : List Value} {so sm : Int} (h : ItemIs cs kind key pa ps pu pr sn un sl so sm) {w : World} {b : Nat} {t : TypeId} (hb : w.heap[b]? = some (.cells cs t)) :
    w.cell? ⟨b, 0, none⟩ = some (.int .u8 kind) ∧ w.rangeAt b 1 key ∧ w.rangeAt b 33 [.int .i64 pa, .int .i64 ps, .int .i64 pu, .int .i64 pr] ∧ w.cell? ⟨b, 37, none⟩ = some (.int .i64 sn) ∧ w.cell? ⟨b, 38, none⟩ = some (.int .i64 un) ∧ w.rangeAt b 39 sl := by
  have hk := h.key_len
  have hs := h.sl_len
  have hc : ∀ (i : Nat) (v : Value), (Value.int .u8 kind :: (key ++ [.int .i64 pa, .int .i64 ps, .int .i64 pu, .int .i64 pr, .int .i64 sn, .int .i64 un] ++ sl))[i]? = some v → w.cell? ⟨b, i, none⟩ = some v := fun i v hv => block_cell hb i v (by rw [h.all]; simpa using hv)
  refine ⟨hc 0 _ rfl, fun j v hv => hc (1 + j) v ?_, fun j v hv => hc (33 + j) v ?_, hc 37 _ ?_, hc 38 _ ?_, fun j v hv => hc (39 + j) v ?_⟩
  · have hj : j < 32 := by rw [← hk]; exact (List.getElem?_eq_some_iff.1 hv).1
    rw [Nat.add_comm, List.getElem?_cons_succ, List.append_assoc, List.getElem?_append_left (by omega)]; exact hv
  · have hj : j < 4 := (List.getElem?_eq_some_iff.1 hv).1
    rw [show 33 + j = (32 + j) + 1 by omega, List.getElem?_cons_succ, List.append_assoc, List.getElem?_append_right (by omega), hk, Nat.add_sub_cancel_left, List.getElem?_append_left (by simp; omega)]
    match j, hj, hv with
    | 0, _, hv => exact hv
    | 1, _, hv => exact hv
    | 2, _, hv => exact hv
    | 3, _, hv => exact hv
  · rw [List.getElem?_cons_succ, List.append_assoc, List.getElem?_append_right (by omega), hk, List.getElem?_append_left (by simp)]; rfl
  · rw [List.getElem?_cons_succ, List.append_assoc, List.getElem?_append_right (by omega), hk, List.getElem?_append_left (by simp)]; rfl
  · rw [show 39 + j = (38 + j) + 1 by omega, List.getElem?_cons_succ, List.append_assoc, List.getElem?_append_right (by omega), hk, List.getElem?_append_right (by simp; omega)]
    rw [show 38 + j - 32 - [Value.int .i64 pa, .int .i64 ps, .int .i64 pu, .int .i64 pr, .int .i64 sn, .int .i64 un].length = j by simp; omega]
    exact hv
end Go.Proofs.Ytmckngkmlhemoaa
