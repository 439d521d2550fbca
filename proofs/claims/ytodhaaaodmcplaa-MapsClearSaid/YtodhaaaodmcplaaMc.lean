/- Layer 23 (maps): what Items tells, in plain Lean. -/
import Derived.Test.YtodhaaaodmcplaaMa
import Derived.Test.YtodhaaaodmcplaaIt
set_option linter.all false
namespace Go.Proofs.Ytodhaaaodmcplaa
open Go.RowKit
def itS (id : Int) (u : Nat) (s : Sl) : Itm := ⟨2, List.replicate 32 0, 0, 0, 0, 0, id, (u : Int), s.k, s.o, s.m⟩
def itN (id : Int) : Itm := ⟨3, List.replicate 32 0, 0, 0, 0, 0, id, 0, List.replicate 32 0, 0, 0⟩
def rowM (n : Nat) (F : Mp1) (id : Int) : List Itm := (List.range n).filterMap fun u => if (F u).1.m = 0 then none else some (itS id u (F u).1)
def snapsI (n : Nat) (L : List (Int × Mp1)) : List Itm := L.flatMap fun x => rowM n x.2 x.1
def itemsM (st : MS) : List Itm := rowM st.n st.now 0 ++ (snapsI st.n st.snaps ++ st.snaps.map fun x => itN x.1)
def ofI (id : Int) (L : List Itm) : List Itm := L.filter fun i => decide (i.kind = 2) && decide (i.sn = id)
def asI (id : Int) (L : List Itm) : List Itm := L.map fun i => { i with sn := id }
theorem rowM_mem {n : Nat} {F : Mp1} {id : Int} {i : Itm} (h : i ∈ rowM n F id) : i.kind = 2 ∧ i.sn = id := by
  unfold rowM at h
  obtain ⟨u, _, hu⟩ := List.mem_filterMap.1 h
  split at hu
  · cases hu
  · injection hu with hu
    rw [← hu]
    exact ⟨rfl, rfl⟩
theorem of_row (n : Nat) (F : Mp1) (id : Int) : ofI id (rowM n F id) = rowM n F id := List.filter_eq_self.2 fun i hi => by
  obtain ⟨h1, h2⟩ := rowM_mem hi
  simp [h1, h2]
theorem of_other {n : Nat} {F : Mp1} {id k : Int} (h : k ≠ id) : ofI id (rowM n F k) = [] := List.filter_eq_nil_iff.2 fun i hi => by
  obtain ⟨h1, h2⟩ := rowM_mem hi
  simp [h1, h2, h]
theorem of_app (id : Int) (a b : List Itm) : ofI id (a ++ b) = ofI id a ++ ofI id b := List.filter_append ..
theorem of_ids (id : Int) (L : List (Int × Mp1)) : ofI id (L.map fun x => itN x.1) = [] := List.filter_eq_nil_iff.2 fun i hi => by
  obtain ⟨x, _, rfl⟩ := List.mem_map.1 hi
  simp [itN]
theorem of_none {n : Nat} {id : Int} : ∀ {L : List (Int × Mp1)}, (∀ x ∈ L, x.1 ≠ id) → ofI id (snapsI n L) = []
  | [], _ => rfl
  | x :: L, h => by
    show ofI id (rowM n x.2 x.1 ++ snapsI n L) = []
    rw [of_app, of_other (h x List.mem_cons_self), of_none fun y hy => h y (List.mem_cons_of_mem _ hy)]
    rfl
theorem of_one {n : Nat} {id : Int} {F : Mp1} : ∀ {L : List (Int × Mp1)}, L.Pairwise (fun a b => a.1 < b.1) → findS id L = some F → ofI id (snapsI n L) = rowM n F id
  | [], _, h => by cases h
  | x :: L, hp, h => by
    show ofI id (rowM n x.2 x.1 ++ snapsI n L) = _
    rw [List.pairwise_cons] at hp
    unfold findS at h
    rw [of_app]
    by_cases e : x.1 = id
    · rw [if_pos e] at h
      injection h with h
      rw [e, h, of_row, of_none fun y hy e2 => by have := hp.1 y hy; omega, List.append_nil]
    · rw [if_neg e] at h
      rw [of_other e, of_one hp.2 h]
      rfl
theorem of_now {st : MS} (h : Inv st) : ofI 0 (itemsM st) = rowM st.n st.now 0 := by
  unfold itemsM
  rw [of_app, of_app, of_row, of_ids, of_none fun x hx e => by have := (h.ids x hx).1; omega, List.append_nil, List.append_nil]
theorem of_snap {st : MS} (h : Inv st) {id : Int} {F : Mp1} (hf : findS id st.snaps = some F) : ofI id (itemsM st) = rowM st.n F id := by
  have hid : (0 : Int) ≠ id := by
    have := (h.ids (id, F) (find_mem hf)).1
    simp only at this
    omega
  unfold itemsM
  rw [of_app, of_app, of_other hid, of_ids, of_one h.rise hf, List.append_nil, List.nil_append]
theorem as_row (n : Nat) (F : Mp1) (id k : Int) : asI k (rowM n F id) = rowM n F k := by
  unfold asI rowM
  rw [List.map_filterMap]
  congr 1
  funext u
  by_cases h : (F u).1.m = 0 <;> simp [h, itS]
theorem rowM_len (n : Nat) (F : Mp1) (id : Int) : (rowM n F id).length ≤ n := Nat.le_trans (List.length_filterMap_le _ _) (by rw [List.length_range]; exact Nat.le_refl _)
/-- What is done to maps, step by step. -/
noncomputable def doM (st : MS) (op : Int) (a b : Int) (s : Sl) : MS := if op = 3 ∨ op = 4 then clearM st a b else if op = 5 then snapM st a else if op = 6 then dropM st a else if op = 7 then backM st a else setM st a s
theorem inv_do {st : MS} (h : Inv st) (op a b : Int) (s : Sl) : Inv (doM st op a b s) := by
  unfold doM
  split
  · exact inv_clear h a b
  split
  · exact inv_snap h a
  split
  · exact inv_drop h a
  split
  · exact inv_back h a
  exact inv_set h a s
theorem n_do (st : MS) (op a b : Int) (s : Sl) : (doM st op a b s).n = st.n := by
  unfold doM clearM snapM dropM backM setM
  repeat' split
  all_goals rfl
/-- A snapshot stays, whatever is done that does not drop it. -/
theorem keep_do {st : MS} {id : Int} {F : Mp1} (hf : findS id st.snaps = some F) (op a b : Int) (s : Sl) (hd : ¬ (op = 6 ∧ a = id)) : findS id (doM st op a b s).snaps = some F := by
  unfold doM
  split
  · unfold clearM
    split <;> exact hf
  split
  · unfold snapM
    split
    · rename_i h3 h4
      by_cases e : a = id
      · subst e
        unfold snapE at h4
        rw [hf] at h4
        split at h4
        · cases h4
        · simp at h4
      · show findS id (insS a st.now st.snaps) = some F
        rw [find_ins_other (fun h => e h.symm)]
        exact hf
    · exact hf
  split
  · unfold dropM
    show findS id (st.snaps.filter _) = some F
    rw [find_del_other fun h => hd ⟨‹op = 6›, h.symm⟩]
    exact hf
  split
  · unfold backM
    split <;> exact hf
  unfold setM
  split <;> exact hf
end Go.Proofs.Ytodhaaaodmcplaa
