/- Layer 24 (refs): the document's rows, as lists of elements. -/
import Derived.Test.YtblfkngdieffiaaBf
namespace Go.Proofs.Ytblfkngdieffiaa
open Go.RowKit Go.Maps Go.WideMaps
def lst (L : Nat → ElC) : Nat → List Ct
  | 0 => []
  | n + 1 => lst L n ++ [(L n).1]
theorem lst_len (L : Nat → ElC) : ∀ n, (lst L n).length = n
  | 0 => rfl
  | n + 1 => by rw [lst, List.length_append, lst_len L n]; rfl
theorem lst_congr {L M : Nat → ElC} : ∀ {n : Nat}, (∀ j, j < n → L j = M j) → lst L n = lst M n
  | 0, _ => rfl
  | n + 1, h => by rw [lst, lst, lst_congr fun j hj => h j (by omega), h n (by omega)]
theorem lst_split (L : Nat → ElC) (i : Nat) : ∀ m, lst L (i + m) = lst L i ++ lst (fun j => L (i + j)) m
  | 0 => by simp [lst]
  | m + 1 => by rw [← Nat.add_assoc, lst, lst, lst_split L i m, List.append_assoc]
theorem lst_cons (L : Nat → ElC) (m : Nat) : lst L (m + 1) = (L 0).1 :: lst (fun j => L (1 + j)) m := by rw [Nat.add_comm, lst_split]; rfl
theorem lst_mem {L : Nat → ElC} {c : Ct} : ∀ {n : Nat}, c ∈ lst L n → ∃ j, j < n ∧ (L j).1 = c
  | 0, h => by simp [lst] at h
  | n + 1, h => by
    rw [lst, List.mem_append] at h
    rcases h with h | h
    · obtain ⟨j, hj, e⟩ := lst_mem h; exact ⟨j, by omega, e⟩
    · exact ⟨n, by omega, (List.mem_singleton.1 h).symm⟩
theorem lst_arr (D : Array ElC) : lst (fun i => D[i]!) D.size = D.toList.map Subtype.val := by
  apply List.ext_getElem?
  intro i
  have h : ∀ n, n ≤ D.size → ∀ i, (lst (fun i => D[i]!) n)[i]? = if i < n then some (D[i]!).1 else none := by
    intro n
    induction n with
    | zero => intro _ i; simp [lst]
    | succ n ih =>
      intro hn i
      rw [lst, List.getElem?_append, lst_len, ih (by omega)]
      by_cases h1 : i < n
      · rw [if_pos h1, if_pos h1, if_pos (by omega)]
      · rw [if_neg h1]
        by_cases h2 : i = n
        · subst h2; simp
        · rw [if_neg (by omega), List.getElem?_eq_none (by simp; omega)]
  rw [h D.size (Nat.le_refl _) i]
  by_cases h1 : i < D.size
  · rw [if_pos h1, getElem!_pos D i h1]; simp [h1]
  · rw [if_neg h1, List.getElem?_eq_none (by simp; omega)]
theorem addC_append {a : List Ct} (b : List Ct) {k : List Int} {x : Int} (h : ∀ c ∈ a, kLt c.k k = true) : addC (a ++ b) k x = a ++ addC b k x := by
  induction a with
  | nil => rfl
  | cons c l ih => rw [List.cons_append, addC, if_pos (h c (by simp)), ih fun c hc => h c (by simp [hc])]; rfl
theorem addC_lst {L : Nat → ElC} {n i : Nat} {k : List Int} {x : Int} (hi : i ≤ n) (h : ∀ j, j < i → kLt (L j).1.k k = true) : addC (lst L n) k x = lst L i ++ addC (lst (fun j => L (i + j)) (n - i)) k x := by
  have e : n = i + (n - i) := by omega
  conv => lhs; rw [e, lst_split]
  exact addC_append _ fun c hc => by obtain ⟨j, hj, rfl⟩ := lst_mem hc; exact h j hj
/-- The key is there. -/
def setL (L : Nat → ElC) (i : Nat) (c : ElC) (j : Nat) : ElC := if j = i then c else L j
def insL (L : Nat → ElC) (i : Nat) (c : ElC) (j : Nat) : ElC := if j < i then L j else if j = i then c else L (j - 1)
theorem addC_set {L : Nat → ElC} {n i : Nat} {k : List Int} {x : Int} (hi : i < n) (h : ∀ j, j < i → kLt (L j).1.k k = true) (hn : kLt (L i).1.k k = false) (he : (L i).1.k = k) (c : ElC) (hc : c.1 = ⟨k, wrap64 ((L i).1.r + x)⟩) :
    lst (setL L i c) n = addC (lst L n) k x := by
  rw [addC_lst (Nat.le_of_lt hi) h]
  obtain ⟨m, rfl⟩ : ∃ m, n = i + (m + 1) := ⟨n - i - 1, by omega⟩
  rw [lst_split, Nat.add_sub_cancel_left, lst_cons, lst_cons, addC, Nat.add_zero, if_neg (by rw [hn]; exact Bool.false_ne_true), if_pos he]
  rw [lst_congr (L := setL L i c) (M := L) fun j hj => by unfold setL; rw [if_neg (by omega)]]
  congr 2
  · unfold setL; rw [if_pos rfl, hc]
  · exact lst_congr fun j _ => by unfold setL; rw [if_neg (by omega)]
theorem addC_ins {L : Nat → ElC} {n i : Nat} {k : List Int} {x : Int} (hi : i ≤ n) (h : ∀ j, j < i → kLt (L j).1.k k = true) (hn : i < n → kLt (L i).1.k k = false ∧ (L i).1.k ≠ k) (c : ElC) (hc : c.1 = ⟨k, x⟩) :
    lst (insL L i c) (n + 1) = addC (lst L n) k x := by
  rw [addC_lst hi h]
  obtain ⟨m, rfl⟩ : ∃ m, n = i + m := ⟨n - i, by omega⟩
  rw [Nat.add_assoc, lst_split, Nat.add_sub_cancel_left, lst_cons]
  rw [lst_congr (L := insL L i c) (M := L) fun j hj => by unfold insL; rw [if_pos hj]]
  congr 1
  have e1 : (insL L i c (i + 0)).1 = ⟨k, x⟩ := by unfold insL; rw [Nat.add_zero, if_neg (by omega), if_pos rfl, hc]
  have e2 : lst (fun j => insL L i c (i + (1 + j))) m = lst (fun j => L (i + j)) m := lst_congr fun j _ => by
    unfold insL
    rw [if_neg (by omega), if_neg (by omega)]
    congr 1
    omega
  rw [e1, e2]
  cases m with
  | zero => rfl
  | succ m =>
    obtain ⟨h1, h2⟩ := hn (by omega)
    rw [lst_cons (fun j => L (i + j)), addC, Nat.add_zero, if_neg (by rw [h1]; exact Bool.false_ne_true), if_neg h2]
end Go.Proofs.Ytblfkngdieffiaa
