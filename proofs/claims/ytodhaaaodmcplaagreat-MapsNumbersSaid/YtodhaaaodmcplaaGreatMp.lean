/- Layer 23 (maps): what Items tells, in plain Lean. -/
import Derived.Test.YtodhaaaodmcplaaGreatMa
import Derived.Test.YtodhaaaodmcplaaGreatIt
set_option linter.all false
namespace Go.Proofs.YtodhaaaodmcplaaGreat
open Go.RowKit
def itS (id : Int) (u : Nat) (s : Sl) : Itm := ⟨2, List.replicate 32 0, 0, 0, 0, 0, id, (u : Int), s.k, s.o, s.m⟩
def itN (id : Int) : Itm := ⟨3, List.replicate 32 0, 0, 0, 0, 0, id, 0, List.replicate 32 0, 0, 0⟩
def rowM (n : Nat) (F : Mp1) (id : Int) : List Itm := (List.range n).filterMap fun u => if (F u).1.m = 0 then none else some (itS id u (F u).1)
def snapsI (n : Nat) (L : List (Int × Mp1)) : List Itm := L.flatMap fun x => rowM n x.2 x.1
def itemsM (st : MS) : List Itm := rowM st.n st.now 0 ++ (snapsI st.n st.snaps ++ st.snaps.map fun x => itN x.1)
def ofI (id : Int) (L : List Itm) : List Itm := L.filter fun i => decide (i.kind = 2) && decide (i.sn = id)
def asI (id : Int) (L : List Itm) : List Itm := L.map fun i => { i with sn := id }
theorem rowM_mem {n : Nat} {F : Mp1} {id : Int} {i : Itm} (h : i ∈ rowM n F id) : i.kind = 2 ∧ i.sn = id := by
  unfold rowM at h
  obtain ⟨u, _, hu⟩ := List.mem_filterMap.1 h
  split at hu
  · cases hu
  · injection hu with hu
    rw [← hu]
    exact ⟨rfl, rfl⟩
theorem of_row (n : Nat) (F : Mp1) (id : Int) : ofI id (rowM n F id) = rowM n F id := List.filter_eq_self.2 fun i hi => by
  obtain ⟨h1, h2⟩ := rowM_mem hi
  simp [h1, h2]
theorem of_other {n : Nat} {F : Mp1} {id k : Int} (h : k ≠ id) : ofI id (rowM n F k) = [] := List.filter_eq_nil_iff.2 fun i hi => by
  obtain ⟨h1, h2⟩ := rowM_mem hi
  simp [h1, h2, h]
theorem of_app (id : Int) (a b : List Itm) : ofI id (a ++ b) = ofI id a ++ ofI id b := List.filter_append ..
theorem of_ids (id : Int) (L : List (Int × Mp1)) : ofI id (L.map fun x => itN x.1) = [] := List.filter_eq_nil_iff.2 fun i hi => by
  obtain ⟨x, _, rfl⟩ := List.mem_map.1 hi
  simp [itN]
theorem of_none {n : Nat} {id : Int} : ∀ {L : List (Int × Mp1)}, (∀ x ∈ L, x.1 ≠ id) → ofI id (snapsI n L) = []
  | [], _ => rfl
  | x :: L, h => by
    show ofI id (rowM n x.2 x.1 ++ snapsI n L) = []
    rw [of_app, of_other (h x List.mem_cons_self), of_none fun y hy => h y (List.mem_cons_of_mem _ hy)]
    rfl
theorem of_one {n : Nat} {id : Int} {F : Mp1} : ∀ {L : List (Int × Mp1)}, L.Pairwise (fun a b => a.1 < b.1) → findS id L = some F → ofI id (snapsI n L) = rowM n F id
  | [], _, h => by cases h
  | x :: L, hp, h => by
    show ofI id (rowM n x.2 x.1 ++ snapsI n L) = _
    rw [List.pairwise_cons] at hp
    unfold findS at h
    rw [of_app]
    by_cases e : x.1 = id
    · rw [if_pos e] at h
      injection h with h
      rw [e, h, of_row, of_none fun y hy e2 => by have := hp.1 y hy; omega, List.append_nil]
    · rw [if_neg e] at h
      rw [of_other e, of_one hp.2 h]
      rfl
theorem of_now {st : MS} (h : Inv st) : ofI 0 (itemsM st) = rowM st.n st.now 0 := by
  unfold itemsM
  rw [of_app, of_app, of_row, of_ids, of_none fun x hx e => by have := (h.ids x hx).1; omega, List.append_nil, List.append_nil]
theorem of_snap {st : MS} (h : Inv st) {id : Int} {F : Mp1} (hf : findS id st.snaps = some F) : ofI id (itemsM st) = rowM st.n F id := by
  have hid : (0 : Int) ≠ id := by
    have := (h.ids (id, F) (find_mem hf)).1
    simp only at this
    omega
  unfold itemsM
  rw [of_app, of_app, of_other hid, of_ids, of_one h.rise hf, List.append_nil, List.nil_append]
theorem as_row (n : Nat) (F : Mp1) (id k : Int) : asI k (rowM n F id) = rowM n F k := by
  unfold asI rowM
  rw [List.map_filterMap]
  congr 1
  funext u
  by_cases h : (F u).1.m = 0 <;> simp [h, itS]
theorem rowM_len (n : Nat) (F : Mp1) (id : Int) : (rowM n F id).length ≤ n := Nat.le_trans (List.length_filterMap_le _ _) (by rw [List.length_range]; exact Nat.le_refl _)
/-- What is done to maps, step by step. -/
noncomputable def doM (st : MS) (op : Int) (a b : Int) (s : Sl) : MS := if op = 3 ∨ op = 4 then clearM st a b else if op = 5 then snapM st a else if op = 6 then dropM st a else if op = 7 then backM st a else setM st a s
theorem inv_do {st : MS} (h : Inv st) (op a b : Int) (s : Sl) : Inv (doM st op a b s) := by
  unfold doM
  split
  · exact inv_clear h a b
  split
  · exact inv_snap h a
  split
  · exact inv_drop h a
  split
  · exact inv_back h a
  exact inv_set h a s
theorem n_do (st : MS) (op a b : Int) (s : Sl) : (doM st op a b s).n = st.n := by
  unfold doM clearM snapM dropM backM setM
  repeat' split
  all_goals rfl
/-- A snapshot stays, whatever is done that does not drop it. -/
theorem keep_do {st : MS} {id : Int} {F : Mp1} (hf : findS id st.snaps = some F) (op a b : Int) (s : Sl) (hd : ¬ (op = 6 ∧ a = id)) : findS id (doM st op a b s).snaps = some F := by
  unfold doM
  split
  · unfold clearM
    split <;> exact hf
  split
  · unfold snapM
    split
    · rename_i h3 h4
      by_cases e : a = id
      · subst e
        unfold snapE at h4
        rw [hf] at h4
        split at h4
        · cases h4
        · simp at h4
      · show findS id (insS a st.now st.snaps) = some F
        rw [find_ins_other (fun h => e h.symm)]
        exact hf
    · exact hf
  split
  · unfold dropM
    show findS id (st.snaps.filter _) = some F
    rw [find_del_other fun h => hd ⟨‹op = 6›, h.symm⟩]
    exact hf
  split
  · unfold backM
    split <;> exact hf
  unfold setM
  split <;> exact hf
end Go.Proofs.YtodhaaaodmcplaaGreat
set_option linter.all false
namespace Go.Proofs.YtodhaaaodmcplaaGreat
open Go.RowKit
theorem mkS_of {s : Sl} (h : OkSl s) : mkS s = ⟨s, h⟩ := dif_pos h
theorem getM_now {st : MS} {un : Int} (h : 0 ≤ un ∧ un < st.n ∧ (st.now un.toNat).1.m ≠ 0) : getM st 0 un = some (st.now un.toNat) := by
  unfold getM ofM
  rw [if_pos rfl]
  exact if_pos h
theorem getM_no {st : MS} {un : Int} (h : ¬ (0 ≤ un ∧ un < st.n ∧ (st.now un.toNat).1.m ≠ 0)) : getM st 0 un = none := by
  unfold getM ofM
  rw [if_pos rfl]
  exact if_neg h
theorem getM_snap {st : MS} {id un : Int} {F : Mp1} (h0 : id ≠ 0) (hf : findS id st.snaps = some F) (h : 0 ≤ un ∧ un < st.n ∧ (F un.toNat).1.m ≠ 0) : getM st id un = some (F un.toNat) := by
  unfold getM ofM
  rw [if_neg h0, hf]
  exact if_pos h
def k9 : List Int := 9 :: List.replicate 31 0
theorem k9_ok : KeyOk 32 k9 := ⟨rfl, fun x hx => by
  rcases List.mem_cons.1 hx with rfl | hx
  · omega
  · rw [List.eq_of_mem_replicate hx]; omega⟩
def s9 : Sl := ⟨k9, 0, 255⟩
def S9 : Slc := ⟨s9, k9_ok, ⟨by decide, by decide⟩, ⟨by decide, by decide⟩⟩
def F0 : Mp1 := fun _ => sl0
def st0 (n : Nat) : MS := ⟨n, F0, []⟩
theorem inv_st0 {n : Nat} (h : 1 ≤ n ∧ n ≤ 512) : Inv (st0 n) := ⟨h, List.Pairwise.nil, fun x hx => (by cases hx), Nat.zero_le _⟩
/-- What the example comes to. -/
structure Exm (s1 s2 s3 s4 s5 : MS) : Prop where
  e1 : setE (st0 4) 1 s9 = 0
  r1 : setM (st0 4) 1 s9 = s1
  e2 : snapE s1 7 = 0
  r2 : snapM s1 7 = s2
  e3 : clearE s2 9 2 = 0
  r3 : clearM s2 9 2 = s3
  g3 : ∃ x : Slc, getM s3 0 1 = some x ∧ x.1.m = 249
  h3 : ∃ x : Slc, getM s3 7 1 = some x ∧ x.1.m = 255
  e4 : clearE s3 8 8 = 0
  r4 : clearM s3 8 8 = s4
  g4 : getM s4 0 1 = none
  e5 : (findS 7 s4.snaps).isSome = true
  r5 : backM s4 7 = s5
  g5 : ∃ x : Slc, getM s5 0 1 = some x ∧ x.1.m = 255
  e6 : snapE s5 7 = 7
  r6 : snapM s5 7 = s5
  e7 : dropE s5 8 = 13
  r7 : dropM s5 8 = s5
  e8 : clearE s5 31 2 = 2
  r8 : clearM s5 31 2 = s5
  l9 : (itemsM s5).length = 3
  l0 : s5.snaps.length = 1
theorem clr249 : clrV 255 (bitsV 1 3) = 249 := by decide +kernel
theorem clr0 : clrV 249 (bitsV 0 8) = 0 := by decide +kernel
theorem examples23 : ∃ s1 s2 s3 s4 s5, Exm s1 s2 s3 s4 s5 := by
  have hs1 : setM (st0 4) 1 s9 = ⟨4, upd F0 1 S9, []⟩ := by
    unfold setM
    rw [if_pos (by decide)]
    show MS.mk _ (upd F0 1 (mkS s9)) _ = _
    rw [show mkS s9 = S9 from mkS_of (s := s9) S9.2]
    rfl
  have hF1 : upd F0 1 S9 1 = S9 := if_pos rfl
  have hs2 : snapM ⟨4, upd F0 1 S9, []⟩ 7 = ⟨4, upd F0 1 S9, [(7, upd F0 1 S9)]⟩ := rfl
  have hc : clearF (upd F0 1 S9) 9 11 = upd (upd F0 1 S9) 1 (clrS S9 1 3) := by
    rw [clear_step (u := 1) (by decide) (by decide) (by decide), hF1]
  have hcs : (clrS S9 1 3).1.m = 249 := by rw [clrS_m (by decide) (by decide)]; exact clr249
  have hs3 : clearM ⟨4, upd F0 1 S9, [(7, upd F0 1 S9)]⟩ 9 2 = ⟨4, upd (upd F0 1 S9) 1 (clrS S9 1 3), [(7, upd F0 1 S9)]⟩ := by
    unfold clearM
    rw [if_pos (by decide)]
    show MS.mk _ (clearF (upd F0 1 S9) 9 11) _ = _
    rw [hc]
  obtain ⟨F3, hF3⟩ : ∃ F3, F3 = upd (upd F0 1 S9) 1 (clrS S9 1 3) := ⟨_, rfl⟩
  have h31 : F3 1 = clrS S9 1 3 := by rw [hF3]; exact if_pos rfl
  rw [← hF3] at hs3
  have hs4 : clearM ⟨4, F3, [(7, upd F0 1 S9)]⟩ 8 8 = ⟨4, upd F3 1 (clrS (clrS S9 1 3) 0 8), [(7, upd F0 1 S9)]⟩ := by
    unfold clearM
    rw [if_pos (show clearB ⟨4, F3, [(7, upd F0 1 S9)]⟩ 8 8 = true from rfl)]
    show MS.mk _ (clearF F3 8 16) _ = _
    rw [clear_step (u := 1) (by decide) (by decide) (by decide), h31]
  have h41 : (clrS (clrS S9 1 3) 0 8).1.m = 0 := by rw [clrS_m (by decide) (by decide), hcs]; exact clr0
  obtain ⟨F4, hF4⟩ : ∃ F4, F4 = upd F3 1 (clrS (clrS S9 1 3) 0 8) := ⟨_, rfl⟩
  have h4 : F4 1 = clrS (clrS S9 1 3) 0 8 := by rw [hF4]; exact if_pos rfl
  rw [← hF4] at hs4
  have hs5 : backM ⟨4, F4, [(7, upd F0 1 S9)]⟩ 7 = ⟨4, upd F0 1 S9, [(7, upd F0 1 S9)]⟩ := rfl
  have gt : ∀ F : Mp1, (F 1).1.m ≠ 0 → getM ⟨4, F, [(7, upd F0 1 S9)]⟩ 0 1 = some (F 1) := fun F h => getM_now (st := ⟨4, F, [(7, upd F0 1 S9)]⟩) (un := 1) ⟨by omega, by show (1 : Int) < ((4 : Nat) : Int); omega, h⟩
  refine ⟨_, _, _, _, _, ⟨by decide, hs1, rfl, hs2, by decide, hs3, ⟨F3 1, gt F3 (by rw [h31, hcs]; decide), by rw [h31, hcs]⟩, ⟨S9, getM_snap (st := ⟨4, F3, [(7, upd F0 1 S9)]⟩) (id := 7) (un := 1) (F := upd F0 1 S9) (by decide) rfl ⟨by omega, by show (1 : Int) < ((4 : Nat) : Int); omega, by decide⟩, rfl⟩, rfl, hs4, getM_no (st := ⟨4, F4, [(7, upd F0 1 S9)]⟩) (un := 1) fun h => h.2.2 (by show (F4 1).1.m = 0; rw [h4, h41]), rfl, hs5, ⟨S9, gt (upd F0 1 S9) (by decide), rfl⟩, rfl, rfl, rfl, rfl, by decide, if_neg (by decide), by decide, rfl⟩⟩
end Go.Proofs.YtodhaaaodmcplaaGreat
