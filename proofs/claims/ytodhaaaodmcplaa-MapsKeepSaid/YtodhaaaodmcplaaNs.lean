/- Layer 23 (maps): items told of another map. -/
import Derived.Test.YtodhaaaodmcplaaNp
set_option linter.all false
namespace Go.Proofs.Ytodhaaaodmcplaa
open Go.RowKit Go.Maps Go.WideMaps
theorem set_splice {α : Type} (l : List α) (o : Nat) (u : α) (h : o < l.length) : l.set o u = splice l o [u] := by
  unfold splice
  rw [List.set_eq_take_append_cons_drop, if_pos h]
  simp
theorem itm_sn {x : Itm} (h : KeyOk 32 x.key) (id : Int) : splice (itmCells x) 37 [.int .i64 id] = itmCells { x with sn := id } := by
  obtain ⟨k, key, a, n, u, r, sn, un, sk, so, sm⟩ := x
  obtain ⟨a0, a1, a2, a3, a4, a5, a6, a7, a8, a9, a10, a11, a12, a13, a14, a15, a16, a17, a18, a19, a20, a21, a22, a23, a24, a25, a26, a27, a28, a29, a30, a31, rfl⟩ := len32 key h.len
  rfl
theorem asI_ok {id : Int} {L : List Itm} (hw : (Lit.int .i64 id).wf = true) (h : ∀ x ∈ L, OkIt x) : ∀ x ∈ asI id L, OkIt x := by
  intro x hx
  obtain ⟨y, hy, rfl⟩ := List.mem_map.1 hx
  have := h y hy
  exact ⟨this.kind, this.key, this.a, this.n, this.u, this.r, hw, this.un, this.sk, this.so, this.sm⟩
theorem asI_len (id : Int) (L : List Itm) : (asI id L).length = L.length := List.length_map ..
theorem as_next {id : Int} {L : List Itm} {j : Nat} {x : Itm} (hw : (Lit.int .i64 id).wf = true) (hL : ∀ x ∈ L, OkIt x) (h : L[j]? = some x) : splice (cellsL (asI id (L.take j) ++ L.drop j)) (j * 73 + 37) [.int .i64 id] = cellsL (asI id (L.take (j + 1)) ++ L.drop (j + 1)) := by
  have hj : j < L.length := (List.getElem?_eq_some_iff.1 h).1
  have hx : L[j] = x := (List.getElem?_eq_some_iff.1 h).2
  have hok := hL x (List.mem_of_getElem? h)
  have hP : (cellsL (asI id (L.take j))).length = j * 73 := by
    rw [cellsL_len (asI_ok hw fun y hy => hL y (List.mem_of_mem_take hy)), asI_len, List.length_take, Nat.min_eq_left (by omega)]
  have e1 : asI id (L.take (j + 1)) = asI id (L.take j) ++ [{ x with sn := id }] := by
    unfold asI
    rw [List.take_add_one, h, Option.toList_some, List.map_append]
    rfl
  have e2 : L.drop j = x :: L.drop (j + 1) := by rw [List.drop_eq_getElem_cons hj, hx]
  rw [e1, e2, cellsL_app, ← hP, splice_right, List.append_assoc, cellsL_app]
  congr 1
  show splice (itmCells x ++ cellsL (L.drop (j + 1))) 37 _ = itmCells { x with sn := id } ++ cellsL (L.drop (j + 1))
  rw [splice_left _ _ _ (by rw [itm_len hok]; simp), itm_sn hok.key]
theorem own_shape {w : World} {base n s : Nat} {e : TypeId} {v : Value} {xs : List Value} (h : w.ownsRow base e s v n xs) (h0 : 0 < n) : ∃ g c, v = .slice (some ⟨g, 0, none⟩) n c := by
  rcases h.2 with ⟨_, h1⟩ | ⟨g, cap, cur, h1, _⟩
  · omega
  · exact ⟨g, cap, h1⟩
set_option maxRecDepth 100000 in
set_option maxHeartbeats 4000000 in
theorem lawAs_p (L : List Itm) (hL : ∀ x ∈ L, OkIt x) (v : Value) (base : Nat) (id : Int) (hw : (Lit.int .i64 id).wf = true) (w : World) (hn : L.length ≤ 5000) (ho : w.ownsRow base 69 73 v L.length (cellsL L)) : Calls Try.prog 20 #[v, .int .i64 id] w fun e w' => e = .returned v ∧ w'.ownsRow base 69 73 v L.length (cellsL (asI id L)) ∧ Keeps (fun k => v.ownBlock = some k) w w' := by
  have HL := Lib.hid hL
  have HW := Lib.hid hw
  obtain ⟨n, hn1⟩ : ∃ n, n = L.length := ⟨_, rfl⟩
  have HN := Lib.hid hn1
  rw [← hn1] at ho hn ⊢
  obtain ⟨A, c, rfl⟩ := row_shapeS ho
  have HO := Lib.hid ho
  clear hL hw hn1 ho
  go_enter Try.func20, Try.ntmps20
  go_upto_region 2 with fail
  go_loopw [5] (fun i wr => ∃ j : Nat, j ≤ n ∧ i = .int .i64 j ∧ wr.ownsRow base 69 73 (.slice A n c) n (cellsL (asI id (L.take j) ++ L.drop j)) ∧ Keeps (fun k => (Value.slice A n c).ownBlock = some k) w wr) (fun i _ => n - (Go.RowKit.intOf i).toNat)
  case atStart => exact ⟨0, Nat.zero_le _, rfl, by simpa [asI] using HO.out, Keeps.refl _ _⟩
  case round =>
    obtain ⟨j, hj, rfl, hr, hk⟩ := hrel
    by_cases hlt : j < n
    · obtain ⟨g, c2, he⟩ := own_shape hr (by omega)
      injection he with he
      subst he
      obtain ⟨x, hxj⟩ : ∃ x, L[j]? = some x := ⟨_, List.getElem?_eq_getElem (by have := HN.out; omega)⟩
      have HNX := Lib.hid (as_next HW.out HL.out hxj)
      obtain ⟨cur, hcur, hlen⟩ := row_blk hr
      have HC := Lib.hid hcur
      have HR := Lib.hid hr
      have HK := Lib.hid hk
      have hlt2 : j * 73 + 37 < cur.length := by omega
      have fz : wr.frozen? ⟨g, j * 73 + 37, none⟩ = false := frozen_of_row wr g _ _ _ hcur
      have cc : wr.cell? ⟨g, j * 73 + 37, none⟩ = some cur[j * 73 + 37] := block_cell hcur _ _ (by simp [hlt2])
      obtain ⟨u0, hu0⟩ : ∃ u, u = cur[j * 73 + 37] := ⟨_, rfl⟩
      rw [← hu0] at cc
      have i1 : (0 : Int) ≤ j := by omega
      have i2 : (j : Int) < n := by omega
      have HLT := Lib.hid hlt2
      have HLN := Lib.hid hlen
      clear hxj hcur hr hk hu0 hlt2 hlen
      go_wp2_with fail
      have h9 : (wr.setCell ⟨g, j * 73 + 37, none⟩ (.int .i64 id)).heap[g]? = some (.cells (splice cur (j * 73 + 37) [.int .i64 id]).toArray 69 (0, 0)) := by
        rw [heap_setCell_same wr g _ _ _ _ HC.out, ← set_splice _ _ _ HLT.out]
        simp
      have h10 := own_seg (cur := cur.toArray) (ys := [.int .i64 id]) (o := j * 73 + 37) HR.out HC.out (by simp; omega) (by simpa using h9)
      rw [HNX.out] at h10
      exact ⟨⟨j + 1, by omega, by push_cast; rfl, h10, HK.out.trans (Keeps.setCell (fun k => k = g) wr ⟨g, j * 73 + 37, none⟩ _ rfl) fun k _ e => by rw [e]; rfl⟩, by simp [Go.RowKit.intOf]; omega⟩
    · obtain rfl : j = n := by omega
      have HR : Hid (wr.ownsRow base 69 73 (.slice A j c) j (cellsL (asI id L))) := Lib.hid (by have h := hr; have e : asI id (L.take j) ++ L.drop j = asI id L := (by rw [HN.out, List.take_length, List.drop_length, List.append_nil]); rwa [e] at h)
      have HK := Lib.hid hk
      clear hr hk
      go_wp2_with fail
      go_ret
      exact ⟨rfl, HR.out, HK.out⟩
end Go.Proofs.Ytodhaaaodmcplaa
