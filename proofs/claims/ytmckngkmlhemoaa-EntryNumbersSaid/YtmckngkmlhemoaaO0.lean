/- Words for the document's Of (layer 14): the byte type's row; new rows; bytes of an entry laid one by one. -/
import Derived.Test.YtmckngkmlhemoaaL
import Derived.Test.YtmckngkmlhemoaaMr
namespace Go.Proofs.Ytmckngkmlhemoaa
open Go.RowKit
theorem info5a : (Try.prog.info? 5).map (fun i => (i.zero, i.size, i.bytes)) = some (some (.int .u8 0), 1, 1) := by kernel_rfl
theorem inf5 : ∃ i, Try.prog.info? 5 = some i ∧ i.zero = some (.int .u8 0) ∧ i.size = 1 ∧ i.bytes ≤ 1024 := by
  obtain ⟨i, h1, h2, h3, h4⟩ := info_parts info5a
  exact ⟨i, h1, h2, h3, by omega⟩
theorem range_new (w : World) (cs : List Value) (t : TypeId) : (w.alloc (.cells cs.toArray t)).rangeAt w.heap.size 0 cs := fun j v hj => by
  rw [Nat.zero_add]
  exact block_cell (heap_new w _) j v (by simpa using hj)
theorem range_kept {n : Nat} {w w' : World} (h : Below n w w') {b o : Nat} {cs : List Value} (hb : b < n) (hr : w.rangeAt b o cs) : w'.rangeAt b o cs := fun j v hj => cell_kept h hb (hr j v hj)
theorem take_snoc {α : Type} {xs : List α} {k : Nat} {x : α} (h : xs[k]? = some x) : xs.take (k + 1) = xs.take k ++ [x] := by
  obtain ⟨hk, rfl⟩ := List.getElem?_eq_some_iff.1 h
  rw [List.take_succ_eq_append_getElem hk]
/-- n bytes that begin with these. -/
def pz (n : Nat) (xs : List Int) : List Value := u8l xs ++ zb (n - xs.length)
theorem pz_set (n : Nat) (xs : List Int) (k : Nat) (x : Int) (h : xs[k]? = some x) (hn : xs.length ≤ n) (H C : List Value) (o : Nat) (ho : H.length + k = o) : (H ++ (pz n (xs.take k) ++ C)).set o (.int .u8 x) = H ++ (pz n (xs.take (k + 1)) ++ C) := by
  have hk : k < xs.length := (List.getElem?_eq_some_iff.1 h).1
  have e0 : (xs.take k).length = k := by simp; omega
  have e1 : pz n (xs.take k) = u8l (xs.take k) ++ (.int .u8 0 :: zb (n - (k + 1))) := by
    rw [pz, e0, show n - k = 1 + (n - (k + 1)) by omega, zb_add]; rfl
  have e2 : pz n (xs.take (k + 1)) = u8l (xs.take k) ++ (.int .u8 x :: zb (n - (k + 1))) := by
    rw [pz, take_snoc h, u8l_app]
    simp [u8l, e0]
  subst ho
  rw [e1, e2, List.set_append_right _ _ (by omega), Nat.add_sub_cancel_left, List.append_assoc, List.append_assoc, List.set_append_right _ _ (by rw [u8l_len, e0]; omega), u8l_len, e0, Nat.sub_self]
  rfl
theorem pz_len (n : Nat) (xs : List Int) (h : xs.length ≤ n) : (pz n xs).length = n := by simp [pz, u8l_len, zb_len]; omega
theorem pz_nil (n : Nat) : pz n [] = zb n := by simp [pz, u8l]
theorem pz_all (n : Nat) (xs : List Int) (k : Nat) (h : xs.length ≤ k) : pz n (xs.take k) = pz n xs := by rw [List.take_of_length_le h]
theorem ent1_pz {i : Itm} (h : i.kind = 1) (hk : i.key.length = 32) : pz 40 (1 :: i.key) ++ (pz 40 (fours [i.pa, i.ps, i.pu, i.pr]) ++ []) = i.ent.cells := by
  unfold Itm.ent
  rw [if_pos h]
  simp only [Ent.cells, pz, u8l_app, List.append_nil, List.length_cons, hk, fours_len]
  simp [u8l, zb]
theorem ent2_pz {i : Itm} (h : i.kind = 2) (hs : i.skey.length = 32) : pz 40 (2 :: fours [i.sn, i.un]) ++ (pz 40 (i.skey ++ [i.so % 256, i.sm % 256]) ++ []) = i.ent.cells := by
  unfold Itm.ent
  rw [if_neg (by omega), if_pos h]
  simp only [Ent.cells, pz, u8l_app, List.append_nil, List.length_cons, List.length_append, hs, fours_len]
  simp [u8l, zb]
theorem ent3_pz {i : Itm} (h : i.kind = 3) : pz 40 (3 :: fours [i.sn]) ++ (pz 40 [] ++ []) = i.ent.cells := by
  unfold Itm.ent
  rw [if_neg (by omega), if_neg (by omega), h]
  simp only [Ent.cells, pz, u8l_app, List.append_nil, List.length_cons, fours_len]
  simp [u8l, zb]
end Go.Proofs.Ytmckngkmlhemoaa
