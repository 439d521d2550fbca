/- Words for memory: slices whose elements are structs of several cells. -/
import Derived.Test.YtodhaaaodmcplaaGreatKeep
import Derived.Deep.MidRow
set_option linter.all false
namespace Go.Proofs.YtodhaaaodmcplaaGreat
open Go.RowKit
/-- Elements of s cells each. -/
def Wide (s : Nat) (F : Nat → List Value) : Prop := ∀ j, (F j).length = s
def flatS (F : Nat → List Value) : Nat → List Value
  | 0 => []
  | n + 1 => flatS F n ++ F n
theorem flatS_len {s : Nat} {F : Nat → List Value} (h : Wide s F) : ∀ n, (flatS F n).length = n * s
  | 0 => by simp [flatS]
  | n + 1 => by rw [flatS, List.length_append, flatS_len h n, h n, Nat.add_mul, Nat.one_mul]
theorem flatS_congr {F G : Nat → List Value} : ∀ {n : Nat}, (∀ j, j < n → F j = G j) → flatS F n = flatS G n
  | 0, _ => rfl
  | n + 1, h => by rw [flatS, flatS, flatS_congr (n := n) fun j hj => h j (by omega), h n (by omega)]
theorem flatS_at {s : Nat} {F : Nat → List Value} (h : Wide s F) {j i : Nat} (hi : i < s) : ∀ {n : Nat}, j < n → (flatS F n)[j * s + i]? = (F j)[i]?
  | 0, hj => absurd hj (Nat.not_lt_zero _)
  | n + 1, hj => by
    by_cases e : j = n
    · subst e
      rw [flatS, List.getElem?_append_right (by rw [flatS_len h]; omega), flatS_len h, Nat.add_sub_cancel_left]
    · have hjn : j < n := by omega
      have hm : (j + 1) * s ≤ n * s := Nat.mul_le_mul_right s hjn
      rw [Nat.add_mul, Nat.one_mul] at hm
      rw [flatS, List.getElem?_append_left (by rw [flatS_len h]; omega)]
      exact flatS_at h hi hjn
theorem flatS_get {s : Nat} {F : Nat → List Value} (h : Wide s F) {i : Nat} {u : Value} : ∀ {n : Nat}, (flatS F n)[i]? = some u → ∃ j k, j < n ∧ k < s ∧ i = j * s + k ∧ (F j)[k]? = some u
  | 0, hi => by simp [flatS] at hi
  | n + 1, hi => by
    rw [flatS] at hi
    by_cases e : i < (flatS F n).length
    · rw [List.getElem?_append_left e] at hi
      obtain ⟨j, k, h1, h2⟩ := flatS_get h hi
      exact ⟨j, k, by omega, h2⟩
    · rw [List.getElem?_append_right (by omega), flatS_len h] at hi
      have hk := (List.getElem?_eq_some_iff.1 hi).1
      rw [h n] at hk
      rw [flatS_len h] at e
      exact ⟨n, i - n * s, by omega, hk, by omega, hi⟩
theorem flatS_one {F : Nat → List Value} : ∀ {n : Nat}, (∀ j, j < n → ∀ v ∈ F j, v.oneCell' = true) → ∀ v ∈ flatS F n, v.oneCell' = true
  | 0, _ => by simp [flatS]
  | n + 1, h => fun v hv => by
    rcases List.mem_append.1 hv with hv | hv
    · exact flatS_one (n := n) (fun j hj => h j (by omega)) v hv
    · exact h n (by omega) v hv
/-- The slice value's array: n elements of s cells from its address on, in a block below B. -/
def SArr (w : World) (B : Nat) (A : Option Addr) (n s : Nat) (F : Nat → List Value) : Prop :=
  0 < n → ∃ b off, A = some ⟨b, off, none⟩ ∧ b < B ∧ ∀ j, j < n → w.rangeAt b (off + j * s) (F j)
theorem SArr.keeps {S : Nat → Prop} {w w' : World} {B : Nat} {A : Option Addr} {n s : Nat} {F : Nat → List Value} (h : SArr w B A n s F) (hk : Keeps S w w') (hS : ∀ b o, A = some ⟨b, o, none⟩ → ¬ S b) : SArr w' B A n s F := fun hn => by
  obtain ⟨b, off, e, hlt, hc⟩ := h hn
  exact ⟨b, off, e, hlt, fun j hj i v hv => hk.cell (hc j hj i v hv) (hS b off e)⟩
theorem SArr.below {w w' : World} {B B' : Nat} {A : Option Addr} {n s : Nat} {F : Nat → List Value} (h : SArr w B A n s F) (hb : Below B' w w') (hB : B ≤ B') : SArr w' B A n s F := fun hn => by
  obtain ⟨b, off, e, hlt, hc⟩ := h hn
  exact ⟨b, off, e, hlt, fun j hj i v hv => (hb.cell (p := ⟨b, off + j * s + i, none⟩) (by show b < B'; omega)).trans (hc j hj i v hv)⟩
theorem SArr.more {w : World} {B B' : Nat} {A : Option Addr} {n s : Nat} {F : Nat → List Value} (h : SArr w B A n s F) (hB : B ≤ B') : SArr w B' A n s F := fun hn => by
  obtain ⟨b, off, e, hlt, hc⟩ := h hn
  exact ⟨b, off, e, by omega, hc⟩
theorem SArr.drewN {w : World} {B : Nat} {A : Option Addr} {n s : Nat} {F : Nat → List Value} (h : SArr w B A n s F) (k : Nat) : SArr (w.drewN k) B A n s F := h
theorem SArr.less {w : World} {B : Nat} {A : Option Addr} {n m s : Nat} {F : Nat → List Value} (h : SArr w B A n s F) (hm : m ≤ n) : SArr w B A m s F := fun hn => by
  obtain ⟨b, off, e, hlt, hc⟩ := h (by omega)
  exact ⟨b, off, e, hlt, fun j hj => hc j (by omega)⟩
theorem SArr.congr {w : World} {B : Nat} {A : Option Addr} {n s : Nat} {F G : Nat → List Value} (h : SArr w B A n s F) (e : ∀ j, j < n → F j = G j) : SArr w B A n s G := fun hn => by
  obtain ⟨b, off, e1, hlt, hc⟩ := h hn
  exact ⟨b, off, e1, hlt, fun j hj => e j hj ▸ hc j hj⟩
theorem SArr.cellsAt {w : World} {B : Nat} {A : Option Addr} {n s : Nat} {F : Nat → List Value} (h : SArr w B A n s F) (hs : Wide s F) (ad : Addr) (hA : A = some ad) (i : Nat) (u : Value) (hi : (flatS F n)[i]? = some u) : w.cell? (ad.add i) = some u := by
  obtain ⟨j, k, h1, h2, h3, h4⟩ := flatS_get hs hi
  obtain ⟨b, off, e, _, hc⟩ := h (by omega)
  rw [e] at hA
  obtain rfl : (⟨b, off, none⟩ : Addr) = ad := by simpa using hA
  have : (⟨b, off, none⟩ : Addr).add i = ⟨b, off + i, none⟩ := by unfold Addr.add; split <;> simp_all
  rw [this, h3, ← Nat.add_assoc]
  exact hc j h1 k u h4
theorem SArr.ofCells {w : World} {g n s : Nat} {F : Nat → List Value} {cs : List Value} {t : TypeId} {z : Nat × Nat} (hs : Wide s F) (h : w.heap[g]? = some (.cells cs.toArray t z)) (hf : ∀ i, i < n * s → cs[i]? = (flatS F n)[i]?) : SArr w w.heap.size (some ⟨g, 0, none⟩) n s F := fun _ =>
  ⟨g, 0, rfl, (Array.getElem?_eq_some_iff.1 h).1, fun j hj i v hv => by
    have hi : i < s := by rw [← hs j]; exact (List.getElem?_eq_some_iff.1 hv).1
    have hm : (j + 1) * s ≤ n * s := Nat.mul_le_mul_right s hj
    rw [Nat.add_mul, Nat.one_mul] at hm
    refine block_cell h _ v ?_
    rw [List.getElem?_toArray, Nat.zero_add, hf _ (by omega), flatS_at hs hi hj]
    exact hv⟩
/-- A row that the call owns reads as an array. -/
theorem srow_arr {w : World} {base : Nat} {e : TypeId} {v : Value} {n s : Nat} {F : Nat → List Value} (hs : Wide s F) (ho : w.ownsRow base e s v n (flatS F n)) : ∃ A cap, v = .slice A n cap ∧ SArr w w.heap.size A n s F ∧ n ≤ cap ∧ cap ≤ maxLen ∧ (A = none → n = 0 ∧ cap = 0) := by
  rcases ho.2 with ⟨rfl, rfl⟩ | ⟨g, cap, cur, rfl, hb, hg, hnc, hcm, hcs, htake⟩
  · exact ⟨none, 0, rfl, fun h => absurd h (by omega), Nat.le_refl _, by simp [maxLen], fun _ => ⟨rfl, rfl⟩⟩
  · refine ⟨_, cap, rfl, fun _ => ⟨g, 0, rfl, (Array.getElem?_eq_some_iff.1 hg).1, fun j hj i v hv => ?_⟩, hnc, hcm, by simp⟩
    have hi : i < s := by rw [← hs j]; exact (List.getElem?_eq_some_iff.1 hv).1
    have hm : (j + 1) * s ≤ n * s := Nat.mul_le_mul_right s hj
    rw [Nat.add_mul, Nat.one_mul] at hm
    have : w.cell? ⟨g, j * s + i, none⟩ = (flatS F n)[j * s + i]? := ho.cellAt (j * s + i) (by omega)
    rw [Nat.zero_add, this, flatS_at hs hi hj]
    exact hv
end Go.Proofs.YtodhaaaodmcplaaGreat
