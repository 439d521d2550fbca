/- Layer 23 (maps): maps and what is done to them, in plain Lean. No program in sight. -/
import Derived.Test.YtodhaaaodmcplaaGreatMk2
set_option linter.all false
namespace Go.Proofs.YtodhaaaodmcplaaGreat
open Go.RowKit
structure Sl where
  k : List Int
  o : Int
  m : Int
deriving DecidableEq
structure OkSl (s : Sl) : Prop where
  key : KeyOk 32 s.k
  o : 0 ≤ s.o ∧ s.o < 16
  m : 0 ≤ s.m ∧ s.m ≤ 255
/-- A slice that a unit may have; one of mask 0 stands for none. -/
abbrev Slc := { s : Sl // OkSl s }
theorem kz32 : KeyOk 32 (List.replicate 32 0) := ⟨by simp, fun x hx => by rw [List.eq_of_mem_replicate hx]; omega⟩
def sl0 : Slc := ⟨⟨List.replicate 32 0, 0, 0⟩, kz32, ⟨by decide, by decide⟩, ⟨by decide, by decide⟩⟩
instance : Inhabited Slc := ⟨sl0⟩
/-- Bits taken out of a mask. -/
def clrV (m y : Int) : Int := ((BitVec.ofInt 64 m &&& ~~~(BitVec.ofInt 64 y)).toNat : Int)
def bitsV (a b : Nat) : Int := ((2 ^ b - 2 ^ a : Nat) : Int)
theorem clr_all : ∀ m : Fin 256, ∀ a b c : Fin 9, a.1 ≤ b.1 → b.1 ≤ c.1 → clrV (clrV m.1 (bitsV a.1 b.1)) (bitsV b.1 c.1) = clrV m.1 (bitsV a.1 c.1) ∧ clrV (clrV m.1 (bitsV b.1 c.1)) (bitsV a.1 b.1) = clrV m.1 (bitsV a.1 c.1) ∧ clrV m.1 (bitsV a.1 b.1) ≤ m.1 ∧ 0 ≤ clrV m.1 (bitsV a.1 b.1) := by decide +kernel
theorem nat_of {m : Int} (h : 0 ≤ m ∧ m ≤ 255) : ∃ k : Fin 256, m = k.1 := ⟨⟨m.toNat, by omega⟩, by simp; omega⟩
theorem clr_comp {m : Int} (h : 0 ≤ m ∧ m ≤ 255) {a b c : Nat} (h1 : a ≤ b) (h2 : b ≤ c) (h3 : c ≤ 8) : clrV (clrV m (bitsV a b)) (bitsV b c) = clrV m (bitsV a c) := by
  obtain ⟨k, rfl⟩ := nat_of h
  exact (clr_all k ⟨a, by omega⟩ ⟨b, by omega⟩ ⟨c, by omega⟩ h1 h2).1
theorem clr_comp2 {m : Int} (h : 0 ≤ m ∧ m ≤ 255) {a b c : Nat} (h1 : a ≤ b) (h2 : b ≤ c) (h3 : c ≤ 8) : clrV (clrV m (bitsV b c)) (bitsV a b) = clrV m (bitsV a c) := by
  obtain ⟨k, rfl⟩ := nat_of h
  exact (clr_all k ⟨a, by omega⟩ ⟨b, by omega⟩ ⟨c, by omega⟩ h1 h2).2.1
theorem clr_bd {m : Int} (h : 0 ≤ m ∧ m ≤ 255) {a b : Nat} (h1 : a ≤ b) (h3 : b ≤ 8) : 0 ≤ clrV m (bitsV a b) ∧ clrV m (bitsV a b) ≤ 255 := by
  obtain ⟨k, rfl⟩ := nat_of h
  have := (clr_all k ⟨a, by omega⟩ ⟨b, by omega⟩ ⟨b, by omega⟩ h1 (Nat.le_refl _)).2.2
  have hk := k.2
  have h2 : clrV (k.1 : Nat) (bitsV a b) ≤ (k.1 : Nat) := this.1
  exact ⟨this.2, by omega⟩
theorem clr_zero {a b : Nat} (h1 : a ≤ b) (h3 : b ≤ 8) : clrV 0 (bitsV a b) = 0 := by
  have h := (clr_all ⟨0, by omega⟩ ⟨a, by omega⟩ ⟨b, by omega⟩ ⟨b, by omega⟩ h1 (Nat.le_refl _)).2.2
  have h2 := h.1; have h3 := h.2
  simp only at h2 h3
  exact Int.le_antisymm h2 h3
/-- A slice with sectors a .. b - 1 taken out; none, if nothing is left. -/
def clrS (s : Slc) (a b : Nat) : Slc := if h : a ≤ b ∧ b ≤ 8 ∧ clrV s.1.m (bitsV a b) ≠ 0 then ⟨⟨s.1.k, s.1.o, clrV s.1.m (bitsV a b)⟩, s.2.key, s.2.o, clr_bd s.2.m h.1 h.2.1⟩ else sl0
theorem clrS_m {s : Slc} {a b : Nat} (h1 : a ≤ b) (h2 : b ≤ 8) : (clrS s a b).1.m = clrV s.1.m (bitsV a b) := by
  unfold clrS
  by_cases h : clrV s.1.m (bitsV a b) = 0
  · rw [dif_neg fun x => x.2.2 h, h]; rfl
  · rw [dif_pos ⟨h1, h2, h⟩]
theorem clrS_comp {s : Slc} {a b c : Nat} (h1 : a ≤ b) (h2 : b ≤ c) (h3 : c ≤ 8) : clrS (clrS s a b) b c = clrS s a c := by
  have e := clr_comp s.2.m h1 h2 h3
  by_cases h : clrV s.1.m (bitsV a b) = 0
  · have e2 : clrS s a b = sl0 := dif_neg fun x => x.2.2 h
    rw [h, clr_zero h2 h3] at e
    have e3 : clrS s a c = sl0 := dif_neg fun x => x.2.2 e.symm
    rw [e2, e3]
    exact dif_neg fun x => x.2.2 (clr_zero h2 h3)
  · have e2 : clrS s a b = ⟨⟨s.1.k, s.1.o, clrV s.1.m (bitsV a b)⟩, s.2.key, s.2.o, clr_bd s.2.m h1 (Nat.le_trans h2 h3)⟩ := dif_pos ⟨h1, Nat.le_trans h2 h3, h⟩
    rw [e2]
    by_cases h4 : clrV s.1.m (bitsV a c) = 0
    · have e3 : clrS s a c = sl0 := dif_neg fun x => x.2.2 h4
      rw [e3]
      exact dif_neg fun x => x.2.2 (e.trans h4)
    · have e3 : clrS s a c = ⟨⟨s.1.k, s.1.o, clrV s.1.m (bitsV a c)⟩, s.2.key, s.2.o, clr_bd s.2.m (Nat.le_trans h1 h2) h3⟩ := dif_pos ⟨Nat.le_trans h1 h2, h3, h4⟩
      rw [e3]
      refine (dif_pos ⟨h2, h3, fun x => h4 (e.symm.trans x)⟩).trans ?_
      apply Subtype.ext
      show Sl.mk _ _ _ = Sl.mk _ _ _
      rw [e]
theorem clrS_comp2 {s : Slc} {a b c : Nat} (h1 : a ≤ b) (h2 : b ≤ c) (h3 : c ≤ 8) : clrS (clrS s b c) a b = clrS s a c := by
  have e := clr_comp2 s.2.m h1 h2 h3
  by_cases h : clrV s.1.m (bitsV b c) = 0
  · have e2 : clrS s b c = sl0 := dif_neg fun x => x.2.2 h
    rw [h, clr_zero h1 (Nat.le_trans h2 h3)] at e
    have e3 : clrS s a c = sl0 := dif_neg fun x => x.2.2 e.symm
    rw [e2, e3]
    exact dif_neg fun x => x.2.2 (clr_zero h1 (Nat.le_trans h2 h3))
  · have e2 : clrS s b c = ⟨⟨s.1.k, s.1.o, clrV s.1.m (bitsV b c)⟩, s.2.key, s.2.o, clr_bd s.2.m h2 h3⟩ := dif_pos ⟨h2, h3, h⟩
    rw [e2]
    by_cases h4 : clrV s.1.m (bitsV a c) = 0
    · have e3 : clrS s a c = sl0 := dif_neg fun x => x.2.2 h4
      rw [e3]
      exact dif_neg fun x => x.2.2 (e.trans h4)
    · have e3 : clrS s a c = ⟨⟨s.1.k, s.1.o, clrV s.1.m (bitsV a c)⟩, s.2.key, s.2.o, clr_bd s.2.m (Nat.le_trans h1 h2) h3⟩ := dif_pos ⟨Nat.le_trans h1 h2, h3, h4⟩
      rw [e3]
      refine (dif_pos ⟨h1, Nat.le_trans h2 h3, fun x => h4 (e.symm.trans x)⟩).trans ?_
      apply Subtype.ext
      show Sl.mk _ _ _ = Sl.mk _ _ _
      rw [e]
abbrev Mp1 := Nat → Slc
def upd (F : Mp1) (u : Nat) (s : Slc) : Mp1 := fun x => if x = u then s else F x
/-- A map with sectors p .. q - 1 taken out. -/
def clearF (F : Mp1) (p q : Nat) : Mp1 := fun u => if p - 8 * u < min (q - 8 * u) 8 then clrS (F u) (p - 8 * u) (min (q - 8 * u) 8) else F u
theorem clear_none (F : Mp1) (p : Nat) : clearF F p p = F := by
  funext u
  exact if_neg (by omega)
theorem clear_comp {F : Mp1} {p q r : Nat} (h1 : p ≤ q) (h2 : q ≤ r) : clearF (clearF F p q) q r = clearF F p r := by
  funext u
  unfold clearF
  by_cases a : p - 8 * u < min (q - 8 * u) 8
  · rw [if_pos a]
    by_cases b : q - 8 * u < min (r - 8 * u) 8
    · rw [if_pos b, if_pos (by omega), show min (q - 8 * u) 8 = q - 8 * u by omega, clrS_comp (by omega) (by omega) (by omega)]
    · rw [if_neg b, if_pos (by omega), show min (q - 8 * u) 8 = min (r - 8 * u) 8 by omega]
  · rw [if_neg a]
    by_cases b : q - 8 * u < min (r - 8 * u) 8
    · rw [if_pos b, if_pos (by omega), show p - 8 * u = q - 8 * u by omega]
    · rw [if_neg b, if_neg (by omega)]
theorem clear_comp2 {F : Mp1} {p q r : Nat} (h1 : p ≤ q) (h2 : q ≤ r) : clearF (clearF F q r) p q = clearF F p r := by
  funext u
  unfold clearF
  by_cases a : q - 8 * u < min (r - 8 * u) 8
  · rw [if_pos a]
    by_cases b : p - 8 * u < min (q - 8 * u) 8
    · rw [if_pos b, if_pos (by omega), show min (q - 8 * u) 8 = q - 8 * u by omega, clrS_comp2 (by omega) (by omega) (by omega)]
    · rw [if_neg b, if_pos (by omega), show p - 8 * u = q - 8 * u by omega]
  · rw [if_neg a]
    by_cases b : p - 8 * u < min (q - 8 * u) 8
    · rw [if_pos b, if_pos (by omega), show min (q - 8 * u) 8 = min (r - 8 * u) 8 by omega]
    · rw [if_neg b, if_neg (by omega)]
theorem clear_step {F : Mp1} {p q u : Nat} (hu : u = p / 8) (h1 : p < q) (h2 : q ≤ 8 * u + 8) : clearF F p q = upd F u (clrS (F u) (p % 8) (q - 8 * u)) := by
  funext x
  unfold clearF upd
  by_cases e : x = u
  · subst e
    rw [if_pos (by omega), if_pos rfl, show p - 8 * x = p % 8 by omega, show min (q - 8 * x) 8 = q - 8 * x by omega]
  · rw [if_neg e]
    exact if_neg (by omega)
structure MS where
  n : Nat
  now : Mp1
  snaps : List (Int × Mp1)
structure Inv (st : MS) : Prop where
  n : 1 ≤ st.n ∧ st.n ≤ 512
  rise : st.snaps.Pairwise fun a b => a.1 < b.1
  ids : ∀ x ∈ st.snaps, 1 ≤ x.1 ∧ x.1 ≤ 1073741824
  len : st.snaps.length ≤ 8
def findS (id : Int) : List (Int × Mp1) → Option Mp1
  | [] => none
  | x :: L => if x.1 = id then some x.2 else findS id L
def insS (id : Int) (F : Mp1) : List (Int × Mp1) → List (Int × Mp1)
  | [] => [(id, F)]
  | x :: L => if x.1 < id then x :: insS id F L else (id, F) :: x :: L
def ofM (st : MS) (id : Int) : Option Mp1 := if id = 0 then some st.now else findS id st.snaps
def getM (st : MS) (id un : Int) : Option Slc := (ofM st id).bind fun F => if 0 ≤ un ∧ un < st.n ∧ (F un.toNat).1.m ≠ 0 then some (F un.toNat) else none
def okS (s : Sl) : Bool := decide (0 ≤ s.o) && decide (s.o < 16) && decide (1 ≤ s.m) && decide (s.m ≤ 255)
def setB (st : MS) (un : Int) (s : Sl) : Bool := decide (0 ≤ un) && decide (un < st.n) && okS s
def clearB (st : MS) (p n : Int) : Bool := decide (0 ≤ p) && decide (0 ≤ n) && decide (p ≤ 8 * st.n) && decide (n ≤ 8 * st.n - p)
def clearM (st : MS) (p n : Int) : MS := if clearB st p n = true then { st with now := clearF st.now p.toNat (p + n).toNat } else st
def clearE (st : MS) (p n : Int) : Int := if clearB st p n = true then 0 else 2
open Classical in
noncomputable def mkS (s : Sl) : Slc := if h : OkSl s then ⟨s, h⟩ else sl0
noncomputable def setM (st : MS) (un : Int) (s : Sl) : MS := if setB st un s = true then { st with now := upd st.now un.toNat (mkS s) } else st
def setE (st : MS) (un : Int) (s : Sl) : Int := if setB st un s = true then 0 else 2
def snapE (st : MS) (id : Int) : Int := if id < 1 ∨ 1073741824 < id then 2 else if (findS id st.snaps).isSome = true then 7 else if 8 ≤ st.snaps.length then 14 else 0
def snapM (st : MS) (id : Int) : MS := if snapE st id = 0 then { st with snaps := insS id st.now st.snaps } else st
def dropE (st : MS) (id : Int) : Int := if (findS id st.snaps).isSome = true then 0 else 13
def dropM (st : MS) (id : Int) : MS := { st with snaps := st.snaps.filter fun x => decide (x.1 ≠ id) }
def backM (st : MS) (id : Int) : MS := match findS id st.snaps with
  | some F => { st with now := F }
  | none => st
theorem find_none {id : Int} : ∀ {L : List (Int × Mp1)}, findS id L = none ↔ ∀ x ∈ L, x.1 ≠ id
  | [] => by simp [findS]
  | x :: L => by
    unfold findS
    by_cases h : x.1 = id
    · simp [h]
    · rw [if_neg h, find_none]; simp [h]
theorem find_mem {id : Int} {F : Mp1} : ∀ {L : List (Int × Mp1)}, findS id L = some F → (id, F) ∈ L
  | [], h => by simp [findS] at h
  | x :: L, h => by
    unfold findS at h
    split at h
    · rename_i e
      have e2 := Option.some.inj h
      subst e e2
      exact List.mem_cons_self
    · exact List.mem_cons_of_mem _ (find_mem h)
theorem find_ins_same {id : Int} {F : Mp1} : ∀ {L : List (Int × Mp1)}, (∀ x ∈ L, x.1 ≠ id) → findS id (insS id F L) = some F
  | [], _ => by simp [insS, findS]
  | x :: L, h => by
    unfold insS
    split
    · unfold findS
      rw [if_neg (h x List.mem_cons_self), find_ins_same fun y hy => h y (List.mem_cons_of_mem _ hy)]
    · simp [findS]
theorem find_ins_other {id k : Int} {F : Mp1} (h : k ≠ id) : ∀ {L : List (Int × Mp1)}, findS k (insS id F L) = findS k L
  | [] => by simp [insS, findS]; exact fun e => h e.symm
  | x :: L => by
    unfold insS
    split
    · unfold findS
      rw [find_ins_other h]
    · show (if id = k then _ else _) = _
      rw [if_neg fun e => h e.symm]
theorem find_del_same {id : Int} {L : List (Int × Mp1)} : findS id (L.filter fun x => decide (x.1 ≠ id)) = none := find_none.2 fun x hx => by simpa using (List.mem_filter.1 hx).2
theorem find_del_other {id k : Int} (h : k ≠ id) : ∀ {L : List (Int × Mp1)}, findS k (L.filter fun x => decide (x.1 ≠ id)) = findS k L
  | [] => rfl
  | x :: L => by
    rw [List.filter_cons]
    by_cases e : x.1 = id
    · rw [if_neg (by simp [e]), find_del_other h]
      unfold findS
      rw [if_neg fun e2 => h (e2.symm.trans e)]
      cases L <;> rfl
    · rw [if_pos (by simp [e])]
      unfold findS
      rw [find_del_other h]
theorem ins_mem {id : Int} {F : Mp1} {y : Int × Mp1} : ∀ {L : List (Int × Mp1)}, y ∈ insS id F L → y = (id, F) ∨ y ∈ L
  | [], h => by simpa [insS] using h
  | x :: L, h => by
    unfold insS at h
    split at h
    · rcases List.mem_cons.1 h with h | h
      · exact .inr (h ▸ List.mem_cons_self)
      · exact (ins_mem h).imp (fun h => h) (List.mem_cons_of_mem _)
    · simpa using h
theorem ins_len {id : Int} {F : Mp1} : ∀ {L : List (Int × Mp1)}, (insS id F L).length = L.length + 1
  | [] => rfl
  | x :: L => by
    unfold insS
    split
    · rw [List.length_cons, ins_len, List.length_cons]
    · rfl
theorem ins_rise {id : Int} {F : Mp1} : ∀ {L : List (Int × Mp1)}, L.Pairwise (fun a b => a.1 < b.1) → (∀ x ∈ L, x.1 ≠ id) → (insS id F L).Pairwise fun a b => a.1 < b.1
  | [], _, _ => by simp [insS]
  | x :: L, h, hn => by
    obtain ⟨h1, h2⟩ := List.pairwise_cons.1 h
    unfold insS
    have hx := hn x List.mem_cons_self
    split
    · rename_i hlt
      refine List.pairwise_cons.2 ⟨fun y hy => ?_, ins_rise h2 fun y hy => hn y (List.mem_cons_of_mem _ hy)⟩
      rcases ins_mem hy with rfl | hy
      · exact hlt
      · exact h1 y hy
    · refine List.pairwise_cons.2 ⟨fun y hy => ?_, h⟩
      rcases List.mem_cons.1 hy with rfl | hy
      · show id < y.1; omega
      · have := h1 y hy; show id < y.1; omega
theorem inv_clear {st : MS} (h : Inv st) (p n : Int) : Inv (clearM st p n) := by
  unfold clearM
  split
  · exact ⟨h.n, h.rise, h.ids, h.len⟩
  · exact h
theorem inv_set {st : MS} (h : Inv st) (un : Int) (s : Sl) : Inv (setM st un s) := by
  unfold setM
  split
  · exact ⟨h.n, h.rise, h.ids, h.len⟩
  · exact h
theorem inv_snap {st : MS} (h : Inv st) (id : Int) : Inv (snapM st id) := by
  unfold snapM
  split
  · rename_i e
    unfold snapE at e
    split at e
    · omega
    · split at e
      · omega
      · rename_i h1 h2
        split at e
        · omega
        · have hn := find_none.1 (Option.not_isSome_iff_eq_none.1 h2)
          refine ⟨h.n, ins_rise h.rise hn, fun x hx => ?_, ?_⟩
          · rcases ins_mem hx with rfl | hx
            · exact ⟨by show 1 ≤ id; omega, by show id ≤ _; omega⟩
            · exact h.ids x hx
          · show (insS id st.now st.snaps).length ≤ 8
            rw [ins_len]; omega
  · exact h
theorem inv_drop {st : MS} (h : Inv st) (id : Int) : Inv (dropM st id) := ⟨h.n, h.rise.filter _, fun x hx => h.ids x (List.mem_filter.1 hx).1, Nat.le_trans (List.length_filter_le _ _) h.len⟩
theorem inv_back {st : MS} (h : Inv st) (id : Int) : Inv (backM st id) := by
  unfold backM
  split
  · exact ⟨h.n, h.rise, h.ids, h.len⟩
  · exact h
end Go.Proofs.YtodhaaaodmcplaaGreat
