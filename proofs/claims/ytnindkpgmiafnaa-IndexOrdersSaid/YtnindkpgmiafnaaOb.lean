/- Layer 22 (index): a row of deeds of the call's own, and two indexes side by side. -/
import Derived.Test.YtnindkpgmiafnaaOa
import Derived.Test.YtnindkpgmiafnaaPick
import Derived.Test.YtnindkpgmiafnaaKm
namespace Go.Proofs.Ytnindkpgmiafnaa
open Go.RowKit Go.Maps Go.WideMaps
def zD : List Value := deedC 0 (List.replicate 32 0) ⟨0, 0, 0, 0⟩ 0
theorem zeroVD (u : World) : (zeroValue 30).run Try.prog u = .ok (.agg zD.toArray) u := by kernel_rfl
theorem infoD : (Try.prog.info? 30).map (fun i => (i.zero, i.size, i.bytes)) = some (some (.agg zD.toArray), 38, 80) := by kernel_rfl
theorem deed_one (d : Deed) : ∀ v ∈ d.cells, v.oneCell' = true := by
  intro v hv
  simp only [Deed.cells, deedC, List.mem_append] at hv
  rcases hv with hv | hv | hv | hv
  · obtain rfl := List.mem_singleton.1 hv; rfl
  · exact u8l_one _ v hv
  · simp [plc] at hv; rcases hv with rfl | rfl | rfl | rfl <;> rfl
  · obtain rfl := List.mem_singleton.1 hv; rfl
theorem deed_len (d : Deed) (hk : KeyOk 32 d.k) : d.cells.length = 38 := by simp [Deed.cells, deedC, u8l_len, hk.len, plc]
/-- Deeds whose key is one. -/
abbrev KD := { d : Deed // KeyOk 32 d.k }
instance : Inhabited KD := ⟨⟨⟨0, List.replicate 32 0, ⟨0, 0, 0, 0⟩, 0⟩, kz_ok⟩⟩
theorem wideD (F : Nat → KD) : Wide 38 fun i => (F i).1.cells := fun i => deed_len _ (F i).2
theorem flatD_push (D : Array KD) (c : KD) : flatS (fun i => (D[i]!).1.cells) D.size ++ c.1.cells = flatS (fun i => ((D.push c)[i]!).1.cells) (D.size + 1) := by
  rw [flatS]
  have e1 : (D.push c)[D.size]! = c := by simp
  rw [e1, flatS_congr (G := fun i => ((D.push c)[i]!).1.cells) fun j hj => by
    rw [getElem!_pos D j hj, getElem!_pos (D.push c) j (by simp; omega), Array.getElem_push_lt hj]]
def keysD (own : Array KD) : List (List Int) := own.toList.map fun d => d.1.k
def keysIn (own : Array KD) (k : List Int) : Option Value := if k ∈ keysD own then some (.bool true) else none
theorem keys_push (own : Array KD) (d : KD) (k : List Int) : (if k = d.1.k then some (.bool true) else keysIn own k) = keysIn (own.push d) k := by
  unfold keysIn keysD
  rw [Array.toList_push, List.map_append]
  by_cases h : k = d.1.k
  · rw [if_pos h, if_pos (by rw [h]; simp)]
  · rw [if_neg h]
    simp only [List.mem_append, List.map_cons, List.map_nil, List.mem_singleton, h, or_false]
/-- A row of deeds with keys that differ, and a map of these keys. -/
structure Own (n0 : Nat) (w0 w : World) (B : Nat) (own : Array KD) (v : Value) (j : Nat) : Prop where
  nd : (keysD own).Nodup
  sz : own.size ≤ j
  row : w.ownsRow (B + 1) 30 38 v own.size (flatS (fun i => (own[i]!).1.cells) own.size)
  map : ∃ c, c ≤ j ∧ Gm Try.prog w keyT (fun _ => True) B c (keysIn own)
  old : Below n0 w0 w
  gB : n0 ≤ B
theorem Own.lt {n0 : Nat} {w0 w : World} {B : Nat} {own : Array KD} {v : Value} {j : Nat} (h : Own n0 w0 w B own v j) : B < w.heap.size := by
  obtain ⟨c, _, h⟩ := h.map; exact h.lt
theorem Own.more {n0 : Nat} {w0 w : World} {B : Nat} {own : Array KD} {v : Value} {j : Nat} (h : Own n0 w0 w B own v j) : Own n0 w0 w B own v (j + 1) :=
  ⟨h.nd, Nat.le_succ_of_le h.sz, h.row, by obtain ⟨c, h1, h2⟩ := h.map; exact ⟨c, Nat.le_succ_of_le h1, h2⟩, h.old, h.gB⟩
/-- One more deed: the row grew, then the map. -/
theorem Own.push {n0 : Nat} {w0 w w1 w2 : World} {B : Nat} {own : Array KD} {v v' : Value} {j c : Nat} (h : Own n0 w0 w B own v j) (d : KD) (hn : keysIn own d.1.k = none)
    (h1 : w1.ownsRow (B + 1) 30 38 v' (own.size + 1) (flatS (fun i => (own[i]!).1.cells) own.size ++ d.1.cells)) (hb1 : Below n0 w0 w1) (hc : c ≤ j)
    (hm : Gm Try.prog w2 keyT (fun _ => True) B (if (keysIn own d.1.k).isSome then c else c + 1) (fun z => if z = d.1.k then some (.bool true) else keysIn own z)) (hg : w1.grownBy w2 (some B)) (hsz : B + 1 ≤ w1.heap.size) : Own n0 w0 w2 B (own.push d) v' (j + 1) := by
  have hB := h.gB
  refine ⟨?_, by have := h.sz; simp; omega, ?_, ⟨c + 1, by omega, ?_⟩, hb1.grown hg ?_ (fun k e => by injection e with e; omega), hB⟩
  · have h2 : d.1.k ∉ keysD own := fun h3 => by unfold keysIn at hn; rw [if_pos h3] at hn; cases hn
    have h4 : keysD (own.push d) = keysD own ++ [d.1.k] := by unfold keysD; rw [Array.toList_push, List.map_append]; rfl
    rw [h4, List.nodup_append]
    exact ⟨h.nd, by simp, fun a ha b hb e => h2 (by rw [List.mem_singleton] at hb; rw [← hb, ← e]; exact ha)⟩
  · rw [Array.size_push, ← flatD_push]
    exact (Keeps.grown hg (S := fun x => x = B) (fun k e => by injection e with e; exact e.symm)).row h1 (fun k hk => by have := (row_lt h1 hk).1; omega)
  · rw [hn] at hm
    exact hm.congr fun k _ => keys_push own d k
  · omega
/-- Two indexes, and a row of deeds that lie ahead of them. -/
structure Pr (n0 : Nat) (w0 w : World) (p1 B1 p2 B2 bs : Nat) (R1 R2 : List Ent) (A : Option Addr) (N : Nat) (F : Nat → KD) : Prop where
  ix1 : Ix w p1 B1 R1
  ix2 : Ix w p2 B2 R2
  own : SArr w bs A N 38 fun i => (F i).1.cells
  old : Below n0 w0 w
  g : n0 ≤ bs ∧ bs ≤ p1 ∧ bs ≤ B1 ∧ bs ≤ p2 ∧ bs ≤ B2
  ne : B1 ≠ p2 ∧ B1 ≠ B2 ∧ B2 ≠ p1
section
variable {n0 : Nat} {w0 w w' : World} {p1 B1 p2 B2 bs : Nat} {R1 R2 R' : List Ent} {A : Option Addr} {N : Nat} {F : Nat → KD}
theorem Pr.sz (h : Pr n0 w0 w p1 B1 p2 B2 bs R1 R2 A N F) : bs ≤ w.heap.size := by have := h.ix1.lt.1; have := h.g; omega
theorem Pr.below (h : Pr n0 w0 w p1 B1 p2 B2 bs R1 R2 A N F) (hb : Below w.heap.size w w') : Pr n0 w0 w' p1 B1 p2 B2 bs R1 R2 A N F :=
  ⟨h.ix1.below hb, h.ix2.below hb, h.own.below hb h.sz, h.old.trans (hb.mono (Nat.le_trans h.g.1 h.sz)), h.g, h.ne⟩
theorem Pr.turn1 (h : Pr n0 w0 w p1 B1 p2 B2 bs R1 R2 A N F) (hi : Ix w' p1 B1 R') (hk : Keeps (fun z => z = B1) w w') : Pr n0 w0 w' p1 B1 p2 B2 bs R' R2 A N F := by
  have h1 := h.g; have h2 := h.ne; have h3 := h.ix2.lt
  exact ⟨hi, h.ix2.keeps (fun x hx => hk.block x (by rcases hx with rfl | rfl; exact h3.1; exact h3.2) (by rcases hx with rfl | rfl; exact fun e => h2.1 e.symm; exact fun e => h2.2.1 e.symm)),
    h.own.below (hk.below (B := bs) (fun z hz => by rw [hz]; exact h1.2.2.1) h.sz) (Nat.le_refl _), h.old.trans (hk.below (fun z hz => by rw [hz]; omega) (Nat.le_trans h1.1 h.sz)), h1, h2⟩
theorem Pr.turn2 (h : Pr n0 w0 w p1 B1 p2 B2 bs R1 R2 A N F) (hi : Ix w' p2 B2 R') (hk : Keeps (fun z => z = B2) w w') : Pr n0 w0 w' p1 B1 p2 B2 bs R1 R' A N F := by
  have h1 := h.g; have h2 := h.ne; have h3 := h.ix1.lt
  exact ⟨h.ix1.keeps (fun x hx => hk.block x (by rcases hx with rfl | rfl; exact h3.1; exact h3.2) (by rcases hx with rfl | rfl; exact fun e => h2.2.2 e.symm; exact fun e => h2.2.1 e)), hi,
    h.own.below (hk.below (B := bs) (fun z hz => by rw [hz]; exact h1.2.2.2.2) h.sz) (Nat.le_refl _), h.old.trans (hk.below (fun z hz => by rw [hz]; omega) (Nat.le_trans h1.1 h.sz)), h1, h2⟩
end
/-- A row turned by k places. -/
def rotD (l : List Deed) (k : Nat) : List Deed := l.drop k ++ l.take k
theorem rot_perm (l : List Deed) (k : Nat) : (rotD l k).Perm l := by
  unfold rotD
  have h := (List.perm_append_comm (l₁ := l.drop k) (l₂ := l.take k))
  rwa [List.take_append_drop] at h
theorem rot_at {l : List Deed} {k j : Nat} (hk : k ≤ l.length) (hj : j < l.length) : (rotD l k)[j]? = l[(j + k) % l.length]? := by
  unfold rotD
  by_cases h : j + k < l.length
  · rw [Nat.mod_eq_of_lt h, List.getElem?_append_left (by simp; omega), List.getElem?_drop, Nat.add_comm]
  · have e : (j + k) % l.length = j + k - l.length := by
      rw [Nat.mod_eq_sub_mod (by omega), Nat.mod_eq_of_lt (by omega)]
    rw [e, List.getElem?_append_right (by simp; omega), List.length_drop, List.getElem?_take, if_pos (by omega)]
    congr 1; omega
theorem take_next {l : List Deed} {j : Nat} {d : Deed} (h : l[j]? = some d) : l.take (j + 1) = l.take j ++ [d] := by
  rw [List.take_add_one, h]; rfl
def listD (own : Array KD) : List Deed := own.toList.map Subtype.val
theorem listD_len (own : Array KD) : (listD own).length = own.size := by simp [listD]
theorem listD_at {own : Array KD} {j : Nat} (h : j < own.size) : (listD own)[j]? = some (own[j]!).1 := by
  rw [listD, List.getElem?_map, getElem!_pos own j h, List.getElem?_eq_getElem (by simpa using h)]
  simp
theorem listD_ok (own : Array KD) : ∀ d ∈ listD own, KeyOk 32 d.k := fun d hd => by
  obtain ⟨e, _, rfl⟩ := List.mem_map.1 hd
  exact e.2
theorem listD_keys (own : Array KD) : (listD own).map Deed.k = keysD own := by rw [listD, keysD, List.map_map]; rfl
theorem rise_next {R : List Ent} (hr : Rise R) {i : Nat} (h : i + 1 < R.length) : kLt (R[i]!).k (R[i + 1]!).k = true := by
  rw [getElem!_pos R i (by omega), getElem!_pos R (i + 1) h]
  exact (List.pairwise_iff_getElem.1 hr) i (i + 1) (by omega) h (by omega)
end Go.Proofs.Ytnindkpgmiafnaa
