/- Layer 25 (op): a write's rows, gone through from the first on, in plain Lean. -/
import Derived.Test.YthdllbbjajddiaaDoorPb
namespace Go.Proofs.YthdllbbjajddiaaDoor
open Go.RowKit
def nl (I : Nat → ElF) (n : Nat) : List Fr := (List.range n).map fun i => (I i).1
def pl (P : Nat → ElP) (n : Nat) : List Pu := (List.range n).map fun i => (P i).1
theorem nl_s (I : Nat → ElF) (n : Nat) : nl I (n + 1) = nl I n ++ [(I n).1] := by simp [nl, List.range_succ]
theorem pl_s (P : Nat → ElP) (n : Nat) : pl P (n + 1) = pl P n ++ [(P n).1] := by simp [pl, List.range_succ]
theorem nl_len (I : Nat → ElF) (n : Nat) : (nl I n).length = n := by simp [nl]
theorem pl_len (P : Nat → ElP) (n : Nat) : (pl P n).length = n := by simp [pl]
theorem nl_ko (I : Nat → ElF) (n : Nat) : ∀ f ∈ nl I n, f.k.length = 32 := fun f hf => by
  obtain ⟨i, _, rfl⟩ := List.mem_map.1 hf
  exact (I i).2.key.len
theorem pl_ko (P : Nat → ElP) (n : Nat) : ∀ f ∈ pl P n, f.k.length = 32 := fun f hf => by
  obtain ⟨i, _, rfl⟩ := List.mem_map.1 hf
  exact (P i).2.key.len
def newsOk (l : List Fr) : Bool := l.all frB && decide ((l.map Fr.k).Nodup)
theorem newsOk_snoc (l : List Fr) (f : Fr) : newsOk (l ++ [f]) = (newsOk l && (frB f && decide (f.k ∉ l.map Fr.k))) := by
  unfold newsOk
  rw [List.all_append, List.map_append, Bool.eq_iff_iff]
  simp only [Bool.and_eq_true, decide_eq_true_eq, List.all_cons, List.all_nil, Bool.and_true, List.map_cons, List.map_nil, List.nodup_append]
  constructor
  · rintro ⟨⟨h1, h2⟩, h3, -, h4⟩
    exact ⟨⟨h1, h3⟩, h2, fun h => h4 _ h _ List.mem_cons_self rfl⟩
  · rintro ⟨⟨h1, h3⟩, h2, h4⟩
    refine ⟨⟨h1, h2⟩, h3, by simp, fun a ha b hb e => ?_⟩
    rw [List.mem_singleton.1 hb] at e
    exact h4 (e ▸ ha)
theorem newsOk_false (I : Nat → ElF) {k : Nat} (h : newsOk (nl I k) = false) : ∀ n, k ≤ n → newsOk (nl I n) = false
  | 0, hk => by
    obtain rfl : k = 0 := by omega
    exact h
  | n + 1, hk => by
    by_cases e : k = n + 1
    · rw [← e]; exact h
    · rw [nl_s, newsOk_snoc, newsOk_false I h n (by omega), Bool.false_and]
def putOk (least : Int) (p : Pu) : Bool := decide (least ≤ p.x ∧ p.x ≤ 511) && decide (0 ≤ p.o ∧ p.o ≤ 15) && decide (1 ≤ p.m ∧ p.m ≤ 255)
def leastL : Int → List Pu → Int
  | a, [] => a
  | _, p :: l => leastL (p.x + 1) l
theorem leastL_snoc : ∀ (l : List Pu) (a : Int) (p : Pu), leastL a (l ++ [p]) = p.x + 1
  | [], _, _ => rfl
  | q :: l, a, p => leastL_snoc l (q.x + 1) p
theorem putsB_snoc : ∀ (l : List Pu) (a : Int) (p : Pu), putsB a (l ++ [p]) = (putsB a l && putOk (leastL a l) p)
  | [], a, p => by
    show (_ && _ && _ && putsB _ []) = (true && putOk a p)
    simp [putsB, putOk]
  | q :: l, a, p => by
    show (_ && putsB (q.x + 1) (l ++ [p])) = (_ && putsB (q.x + 1) l && putOk (leastL (q.x + 1) l) p)
    rw [putsB_snoc l]
    simp only [Bool.and_assoc]
theorem putsB_false (P : Nat → ElP) {k : Nat} (h : putsB 0 (pl P k) = false) : ∀ n, k ≤ n → putsB 0 (pl P n) = false
  | 0, hk => by
    obtain rfl : k = 0 := by omega
    exact h
  | n + 1, hk => by
    by_cases e : k = n + 1
    · rw [← e]; exact h
    · rw [pl_s, putsB_snoc, putsB_false P h n (by omega), Bool.false_and]
/-- A write's rows are right. -/
def rowsB (ns : List Fr) (ps : List Pu) : Bool := newsOk ns && putsB 0 ps && (decide (ns.length ≤ 18) && decide (ps.length ≤ 18))
theorem write_rows (o : OpR) : writeB o = rowsB o.news o.puts := by
  unfold writeB rowsB newsOk
  simp only [Bool.and_assoc]
theorem rowsB_news {ns : List Fr} {ps : List Pu} (h : newsOk ns = false) : rowsB ns ps = false := by unfold rowsB; rw [h]; rfl
theorem rowsB_puts {ns : List Fr} {ps : List Pu} (h : putsB 0 ps = false) : rowsB ns ps = false := by unfold rowsB; rw [h, Bool.and_false]; rfl
theorem rowsB_len {ns : List Fr} {ps : List Pu} (h1 : newsOk ns = true) (h2 : putsB 0 ps = true) : rowsB ns ps = (decide (ns.length ≤ 18) && decide (ps.length ≤ 18)) := by unfold rowsB; rw [h1, h2]; rfl
/-- How often a key was seen among keys that are all unlike. -/
def seenL (l : List Fr) (k : List Int) : Option Int := if k ∈ l.map Fr.k then some 1 else none
end Go.Proofs.YthdllbbjajddiaaDoor
