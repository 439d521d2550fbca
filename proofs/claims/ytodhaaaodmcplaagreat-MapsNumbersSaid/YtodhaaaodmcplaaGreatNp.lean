/- Layer 23 (maps): the laws' own small functions: a step; the slices of a map; they, told of another one. -/
import Derived.Test.YtodhaaaodmcplaaGreatNo
import Derived.Test.YtodhaaaodmcplaaGreatBkIt
import Derived.Test.YtodhaaaodmcplaaGreatPick
set_option linter.all false
namespace Go.Proofs.YtodhaaaodmcplaaGreat
open Go.RowKit Go.Maps Go.WideMaps
noncomputable def doD (st : MS) (d : Dox) : MS := doM st (d.op % 9) d.a d.b d.s
theorem inv_doD {st : MS} (h : Inv st) (d : Dox) : Inv (doD st d) := inv_do h _ _ _ _
theorem n_doD (st : MS) (d : Dox) : (doD st d).n = st.n := n_do _ _ _ _ _
structure OkDo (d : Dox) : Prop where
  k : KeyOk 32 d.s.k
  op : (Lit.int .i64 d.op).wf = true
  a : (Lit.int .i64 d.a).wf = true
  b : (Lit.int .i64 d.b).wf = true
/-- A row of items, read. -/
theorem itm_at {x : Itm} (h : KeyOk 32 x.key) {w : World} {b o : Nat} (hr : w.rangeAt b o (itmCells x)) : w.cell? ⟨b, o, none⟩ = some (.int .u8 x.kind) ∧ w.cell? ⟨b, o + 37, none⟩ = some (.int .i64 x.sn) := by
  refine ⟨hr 0 _ rfl, hr 37 _ ?_⟩
  unfold itmCells
  rw [List.getElem?_append_right (by simp), List.getElem?_append_right (by simp [u8l_len, h.len]), List.length_singleton, u8l_len, h.len]
  rfl
theorem cellsL_len {L : List Itm} (h : ∀ x ∈ L, OkIt x) : (cellsL L).length = L.length * 73 := by
  rw [← elI_all h, flatS_len (wideIt _)]
theorem row_items {w : World} {base : Nat} {v : Value} {L : List Itm} (hL : ∀ x ∈ L, OkIt x) (h : w.ownsRow base 75 73 v L.length (cellsL L)) : ∃ A cap, v = .slice A L.length cap ∧ SArr w w.heap.size A L.length 73 (fun i => cellsIt (elI L i)) ∧ L.length ≤ cap ∧ (A = none → L.length = 0 ∧ cap = 0) := by
  rw [← elI_all hL] at h
  obtain ⟨A, cap, h1, h2, h3, _, h5⟩ := srow_arr (wideIt _) h
  exact ⟨A, cap, h1, h2, h3, h5⟩
theorem ofI_next (id : Int) {L : List Itm} {j : Nat} {x : Itm} (h : L[j]? = some x) : ofI id (L.take (j + 1)) = ofI id (L.take j) ++ if x.kind = 2 ∧ x.sn = id then [x] else [] := by
  rw [List.take_add_one, h, Option.toList_some, of_app]
  congr 1
  unfold ofI
  by_cases h1 : x.kind = 2 <;> by_cases h2 : x.sn = id <;> simp [h1, h2]
theorem ofI_len (id : Int) (L : List Itm) : (ofI id L).length ≤ L.length := List.length_filter_le _ _
theorem ofI_ok {id : Int} {L : List Itm} (h : ∀ x ∈ L, OkIt x) : ∀ x ∈ ofI id L, OkIt x := fun x hx => h x (List.mem_filter.1 hx).1
end Go.Proofs.YtodhaaaodmcplaaGreat
