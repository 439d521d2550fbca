/- Words for memory: a world in which all blocks but those of a set lie as they lay; rows that the call owns. -/
import Derived.Test.YtodhaaaodmcplaaGreatArr
import Derived.Deep.AppendLies
set_option linter.all false
namespace Go.Proofs.YtodhaaaodmcplaaGreat
open Go.RowKit
/-- All blocks of w but those of S lie in w' as they lay; the streams too. -/
structure Keeps (S : Nat → Prop) (w w' : World) : Prop where
  os : w'.os = w.os
  tape : w'.tape = w.tape
  output : w'.output = w.output
  size : w.heap.size ≤ w'.heap.size
  block : ∀ k, k < w.heap.size → ¬ S k → w'.heap[k]? = w.heap[k]?
theorem Keeps.refl (S : Nat → Prop) (w : World) : Keeps S w w := ⟨rfl, rfl, rfl, Nat.le_refl _, fun _ _ _ => rfl⟩
theorem Keeps.fresh {S : Nat → Prop} {w w' : World} (h : Below w.heap.size w w') : Keeps S w w' := ⟨h.os, h.tape, h.output, h.size, fun k hk _ => h.block k hk⟩
theorem Keeps.ofBelow {S : Nat → Prop} {B : Nat} {w w' : World} (h : Below B w w') (hS : ∀ k, k < w.heap.size → ¬ S k → k < B) : Keeps S w w' := ⟨h.os, h.tape, h.output, h.size, fun k hk hn => h.block k (hS k hk hn)⟩
theorem Keeps.grown {S : Nat → Prop} {w w' : World} {row : Option Nat} (h : w.grownBy w' row) (hS : ∀ k, row = some k → S k) : Keeps S w w' := ⟨h.os, h.tape, h.output, h.size, fun k hk hn => h.block k hk fun e => hn (hS k e.symm)⟩
theorem Keeps.trans {S S2 : Nat → Prop} {a b c : World} (h : Keeps S a b) (k : Keeps S2 b c) (hS : ∀ i, i < a.heap.size → S2 i → S i) : Keeps S a c :=
  ⟨k.os.trans h.os, k.tape.trans h.tape, k.output.trans h.output, Nat.le_trans h.size k.size, fun i hi hn => (k.block i (Nat.lt_of_lt_of_le hi h.size) fun e => hn (hS i hi e)).trans (h.block i hi hn)⟩
theorem Keeps.mono {S S2 : Nat → Prop} {a b : World} (h : Keeps S a b) (hS : ∀ i, i < a.heap.size → S i → S2 i) : Keeps S2 a b := ⟨h.os, h.tape, h.output, h.size, fun k hk hn => h.block k hk fun e => hn (hS k hk e)⟩
theorem Keeps.below {S : Nat → Prop} {B : Nat} {w w' : World} (h : Keeps S w w') (hB : ∀ k, S k → B ≤ k) (hs : B ≤ w.heap.size) : Below B w w' := ⟨h.os, h.tape, h.output, h.size, fun k hk => h.block k (Nat.lt_of_lt_of_le hk hs) fun e => Nat.lt_irrefl k (Nat.lt_of_lt_of_le hk (hB k e))⟩
theorem Keeps.setCell (S : Nat → Prop) (w : World) (p : Addr) (u : Value) (hS : S p.block) : Keeps S w (w.setCell p u) := ⟨rfl, rfl, rfl, by simp [World.setCell], fun k _ hn => Below.heap_setCell w p u k fun e => hn (e ▸ hS)⟩
theorem Keeps.alloc (S : Nat → Prop) (w : World) (o : Obj) : Keeps S w (w.alloc o) := ⟨rfl, rfl, rfl, by simp, fun k hk _ => Below.heap_alloc w o k hk⟩
theorem Keeps.drewN (S : Nat → Prop) (w : World) (n : Nat) : Keeps S w (w.drewN n) := ⟨rfl, rfl, rfl, Nat.le_refl _, fun _ _ _ => rfl⟩
theorem Keeps.drew (S : Nat → Prop) (w : World) : Keeps S w w.drew := ⟨rfl, rfl, rfl, Nat.le_refl _, fun _ _ _ => rfl⟩
theorem Keeps.heap {S : Nat → Prop} {w w' : World} (h : Keeps S w w') {k : Nat} {o : Obj} (hk : w.heap[k]? = some o) (hS : ¬ S k) : w'.heap[k]? = some o := (h.block k (Array.getElem?_eq_some_iff.1 hk).1 hS).trans hk
theorem Keeps.cell {S : Nat → Prop} {w w' : World} (h : Keeps S w w') {p : Addr} {u : Value} (hp : w.cell? p = some u) (hS : ¬ S p.block) : w'.cell? p = some u :=
  (World.cell?_of_block (h.block p.block (World.block_lt_of_cell? w p hp) hS)).trans hp
theorem Keeps.arr {S : Nat → Prop} {w w' : World} {B : Nat} {A : Option Addr} {n : Nat} {f : Nat → Value} (h : Keeps S w w') (ha : Arr w B A n f) (hS : ∀ k, k < B → ¬ S k) : Arr w' B A n f := fun hn => by
  obtain ⟨b, off, e, hlt, hc⟩ := ha hn
  exact ⟨b, off, e, hlt, fun j hj => h.cell (hc j hj) (hS b hlt)⟩
theorem Keeps.row {S : Nat → Prop} {w w' : World} {base : Nat} {e : TypeId} {size : Nat} {v : Value} {n : Nat} {xs : List Value} (h : Keeps S w w') (ho : w.ownsRow base e size v n xs) (hS : ∀ k, v.ownBlock = some k → ¬ S k) : w'.ownsRow base e size v n xs := by
  refine ⟨ho.1, ?_⟩
  rcases ho.2 with hn | ⟨g, cap, cur, rfl, hb, hg, rest⟩
  · exact .inl hn
  · exact .inr ⟨g, cap, cur, rfl, hb, h.heap hg (hS g rfl), rest⟩
/-- A row that the call owns reads as an array. -/
theorem row_arr {w : World} {base : Nat} {e : TypeId} {v : Value} {n : Nat} {f : Nat → Value} (ho : w.ownsRow base e 1 v n ((List.range n).map f)) : ∃ A cap, v = .slice A n cap ∧ Arr w w.heap.size A n f ∧ n ≤ cap ∧ cap ≤ maxLen ∧ (A = none → n = 0 ∧ cap = 0) := by
  rcases ho.2 with ⟨rfl, rfl⟩ | ⟨g, cap, cur, rfl, hb, hg, hnc, hcm, hcs, htake⟩
  · exact ⟨none, 0, rfl, fun h => absurd h (by omega), Nat.le_refl _, by simp [maxLen], fun _ => ⟨rfl, rfl⟩⟩
  · refine ⟨_, cap, rfl, fun _ => ⟨g, 0, rfl, (Array.getElem?_eq_some_iff.1 hg).1, fun j hj => ?_⟩, hnc, hcm, by simp⟩
    have : w.cell? ⟨g, j, none⟩ = ((List.range n).map f)[j]? := ho.cellAt j (by omega)
    rw [Nat.zero_add, this, List.getElem?_map, List.getElem?_range hj]
    rfl
/-- The row's block lies below the heap's end, from base on. -/
theorem row_lt {w : World} {base : Nat} {e : TypeId} {size : Nat} {v : Value} {n : Nat} {xs : List Value} (ho : w.ownsRow base e size v n xs) {k : Nat} (hk : v.ownBlock = some k) : base ≤ k ∧ k < w.heap.size := ho.lt k hk
theorem row_more {w : World} {base base' : Nat} {e : TypeId} {size : Nat} {v : Value} {n : Nat} {xs : List Value} (ho : w.ownsRow base e size v n xs) (hb : base' ≤ base) : w.ownsRow base' e size v n xs := by
  refine ⟨ho.1, ?_⟩
  rcases ho.2 with hn | ⟨g, cap, cur, rfl, hg, rest⟩
  · exact .inl hn
  · exact .inr ⟨g, cap, cur, rfl, Nat.le_trans hb hg, rest⟩
end Go.Proofs.YtodhaaaodmcplaaGreat
