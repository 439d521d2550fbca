/- Layer 23 (maps): items told of another map. -/
import Derived.Test.YtodhaaaodmcplaaGreatNp
set_option linter.all false
namespace Go.Proofs.YtodhaaaodmcplaaGreat
open Go.RowKit Go.Maps Go.WideMaps
theorem set_splice {α : Type} (l : List α) (o : Nat) (u : α) (h : o < l.length) : l.set o u = splice l o [u] := by
  unfold splice
  rw [List.set_eq_take_append_cons_drop, if_pos h]
  simp
theorem itm_sn {x : Itm} (h : KeyOk 32 x.key) (id : Int) : splice (itmCells x) 37 [.int .i64 id] = itmCells { x with sn := id } := by
  obtain ⟨k, key, a, n, u, r, sn, un, sk, so, sm⟩ := x
  obtain ⟨a0, a1, a2, a3, a4, a5, a6, a7, a8, a9, a10, a11, a12, a13, a14, a15, a16, a17, a18, a19, a20, a21, a22, a23, a24, a25, a26, a27, a28, a29, a30, a31, rfl⟩ := len32 key h.len
  rfl
theorem asI_ok {id : Int} {L : List Itm} (hw : (Lit.int .i64 id).wf = true) (h : ∀ x ∈ L, OkIt x) : ∀ x ∈ asI id L, OkIt x := by
  intro x hx
  obtain ⟨y, hy, rfl⟩ := List.mem_map.1 hx
  have := h y hy
  exact ⟨this.kind, this.key, this.a, this.n, this.u, this.r, hw, this.un, this.sk, this.so, this.sm⟩
theorem asI_len (id : Int) (L : List Itm) : (asI id L).length = L.length := List.length_map ..
theorem as_next {id : Int} {L : List Itm} {j : Nat} {x : Itm} (hw : (Lit.int .i64 id).wf = true) (hL : ∀ x ∈ L, OkIt x) (h : L[j]? = some x) : splice (cellsL (asI id (L.take j) ++ L.drop j)) (j * 73 + 37) [.int .i64 id] = cellsL (asI id (L.take (j + 1)) ++ L.drop (j + 1)) := by
  have hj : j < L.length := (List.getElem?_eq_some_iff.1 h).1
  have hx : L[j] = x := (List.getElem?_eq_some_iff.1 h).2
  have hok := hL x (List.mem_of_getElem? h)
  have hP : (cellsL (asI id (L.take j))).length = j * 73 := by
    rw [cellsL_len (asI_ok hw fun y hy => hL y (List.mem_of_mem_take hy)), asI_len, List.length_take, Nat.min_eq_left (by omega)]
  have e1 : asI id (L.take (j + 1)) = asI id (L.take j) ++ [{ x with sn := id }] := by
    unfold asI
    rw [List.take_add_one, h, Option.toList_some, List.map_append]
    rfl
  have e2 : L.drop j = x :: L.drop (j + 1) := by rw [List.drop_eq_getElem_cons hj, hx]
  rw [e1, e2, cellsL_app, ← hP, splice_right, List.append_assoc, cellsL_app]
  congr 1
  show splice (itmCells x ++ cellsL (L.drop (j + 1))) 37 _ = itmCells { x with sn := id } ++ cellsL (L.drop (j + 1))
  rw [splice_left _ _ _ (by rw [itm_len hok]; simp), itm_sn hok.key]
theorem own_shape {w : World} {base n s : Nat} {e : TypeId} {v : Value} {xs : List Value} (h : w.ownsRow base e s v n xs) (h0 : 0 < n) : ∃ g c, v = .slice (some ⟨g, 0, none⟩) n c := by
  rcases h.2 with ⟨_, h1⟩ | ⟨g, cap, cur, h1, _⟩
  · omega
  · exact ⟨g, cap, h1⟩
end Go.Proofs.YtodhaaaodmcplaaGreat
