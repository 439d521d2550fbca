/- Layer 24 (refs): plain laws on sums: Delta the other way round, Delta in two steps. -/
import Derived.Test.YtblfkngdieffiaaLc
namespace Go.Proofs.Ytblfkngdieffiaa
open Go.RowKit Go.Maps Go.WideMaps
theorem wrap_congr {a b : Int} : wrap64 a = wrap64 b ↔ (a - b) % 18446744073709551616 = 0 := by unfold wrap64; omega
theorem sum_at : ∀ {R : List Ct}, Rises R → ∀ {k : List Int} {x : Int}, ⟨k, x⟩ ∈ R → sumT R k = x
  | [], _, _, _, h => by simp at h
  | c :: l, hr, k, x, h => by
    have h1 := List.pairwise_cons.1 hr
    rcases List.mem_cons.1 h with e | e
    · subst e
      have hn : hasK l k = false := by
        rw [Bool.eq_false_iff]
        intro hh
        simp only [hasK, List.any_eq_true, decide_eq_true_eq] at hh
        obtain ⟨d, hd, e⟩ := hh
        have := h1.1 d hd
        rw [e, kLt_irrefl] at this
        cases this
      rw [sumT, if_pos rfl, sumT_none hn, Int.add_zero]
    · have hne : ¬ c.k = k := fun e2 => by
        have := h1.1 _ e
        rw [e2, kLt_irrefl] at this
        cases this
      rw [sumT, if_neg hne, Int.zero_add]
      exact sum_at h1.2 e
/-- A row's own sums. -/
theorem sum_row {cs R : List Ct} (h : IsRow cs R) {k : List Int} (hk : KeyOk 32 k) : sumT R k = wrap64 (sumT cs k) := by
  by_cases h0 : wrap64 (sumT cs k) = 0
  · have hn : hasK R k = false := by
      rw [Bool.eq_false_iff]
      intro hh
      simp only [hasK, List.any_eq_true, decide_eq_true_eq] at hh
      obtain ⟨d, hd, e⟩ := hh
      obtain ⟨dk, dr⟩ := d
      simp only at e
      subst e
      have := (h.has _ _ hk).1 hd
      exact this.2 (this.1.trans h0)
    rw [sumT_none hn, h0]
  · exact sum_at h.rises ((h.has k _ hk).2 ⟨rfl, h0⟩)
theorem sumN_pos (L : Nat → ElC) (k : List Int) : ∀ n, sumT (csN 1 L n) k = sumT (lst L n) k
  | 0 => rfl
  | n + 1 => by
    rw [csN, lst, sumT_append, sumT_append, sumN_pos L k n]
    congr 1
    simp only [sumT]
    rw [← pos_wrap (L n).2.r]
theorem sumN_neg (L : Nat → ElC) (k : List Int) : ∀ n, (sumT (csN (-1) L n) k + sumT (lst L n) k) % 18446744073709551616 = 0
  | 0 => rfl
  | n + 1 => by
    have ih := sumN_neg L k n
    rw [csN, lst, sumT_append, sumT_append]
    simp only [sumT]
    have hw : (wrap64 (-1 * (L n).1.r) + (L n).1.r) % 18446744073709551616 = 0 := by unfold wrap64; omega
    split <;> omega
theorem sum_bd {L : Nat → ElC} (k : List Int) : ∀ {n : Nat}, (∀ j, j < n → -1073741824 ≤ (L j).1.r ∧ (L j).1.r ≤ 1073741824) → -(1073741824 * (n : Int)) ≤ sumT (lst L n) k ∧ sumT (lst L n) k ≤ 1073741824 * n
  | 0, _ => by simp [lst, sumT]
  | n + 1, h => by
    have ih := sum_bd (L := L) (n := n) k fun j hj => h j (by omega)
    have hb := h n (by omega)
    rw [lst, sumT_append]
    simp only [sumT]
    split <;> omega
def neg (c : Ct) : Ct := ⟨c.k, -c.r⟩
/-- The other way round: all signs turned. -/
theorem turned_row {A B : Nat → ElC} {n m : Nat} {R : List Ct} (hn : n ≤ 300) (hm : m ≤ 300) (ha : ∀ j, j < n → -1073741824 ≤ (A j).1.r ∧ (A j).1.r ≤ 1073741824) (hb : ∀ j, j < m → -1073741824 ≤ (B j).1.r ∧ (B j).1.r ≤ 1073741824)
    (h : IsRow (csN (-1) A n ++ csN 1 B m) R) : IsRow (csN (-1) B m ++ csN 1 A n) (R.map neg) := by
  have hs : ∀ k, wrap64 (sumT (csN (-1) B m ++ csN 1 A n) k) = - wrap64 (sumT (csN (-1) A n ++ csN 1 B m) k) := fun k => by
    have a1 := sumN_neg A k n
    have a2 := sumN_pos A k n
    have b1 := sumN_neg B k m
    have b2 := sumN_pos B k m
    have q1 := sum_bd k ha
    have q2 := sum_bd k hb
    rw [sumT_append, sumT_append, a2, b2]
    generalize sumT (csN (-1) A n) k = x at *
    generalize sumT (csN (-1) B m) k = y at *
    generalize sumT (lst A n) k = a at *
    generalize sumT (lst B m) k = b at *
    unfold wrap64
    omega
  refine ⟨?_, fun c hc => ?_, fun k x hk => ?_⟩
  · have := h.rises
    unfold Rises at this ⊢
    rw [List.pairwise_map]
    exact this
  · obtain ⟨d, hd, rfl⟩ := List.mem_map.1 hc
    exact h.keys d hd
  · have e : (⟨k, x⟩ ∈ R.map neg) ↔ (⟨k, -x⟩ : Ct) ∈ R := by
      constructor
      · intro hc
        obtain ⟨d, hd, e⟩ := List.mem_map.1 hc
        obtain ⟨dk, dr⟩ := d
        unfold neg at e
        injection e with e1 e2
        simp only at e1 e2
        subst e1 e2
        rw [Int.neg_neg]; exact hd
      · intro hc
        exact List.mem_map.2 ⟨_, hc, by unfold neg; simp⟩
    rw [e, h.has k _ hk, hs]
    omega
/-- In two steps. -/
theorem both_row {A B C L : Nat → ElC} {n m q p : Nat} {R1 R2 R : List Ct} (h1 : IsRow (csN (-1) A n ++ csN 1 B m) R1) (h2 : IsRow (csN (-1) B m ++ csN 1 C q) R2) (hL : lst L p = R1 ++ R2) (h : IsRow (csN (-1) A n ++ csN 1 C q) R) (Z : Nat → ElC) :
    ∀ {R' : List Ct}, IsRow (csN (-1) Z 0 ++ csN 1 L p) R' → R' = R := fun h' => by
  refine IsRow.unique h' h fun k hk => ?_
  have e1 := sum_row h1 hk
  have e2 := sum_row h2 hk
  have a1 := sumN_neg A k n
  have b1 := sumN_neg B k m
  have b2 := sumN_pos B k m
  have c2 := sumN_pos C k q
  rw [sumT_append, sumT_append, sumN_pos L k p, hL, sumT_append, e1, e2, sumT_append, sumT_append, b2, c2]
  have z : sumT (csN (-1) Z 0) k = 0 := rfl
  rw [z]
  generalize sumT (csN (-1) A n) k = x at *
  generalize sumT (csN (-1) B m) k = y at *
  generalize sumT (lst B m) k = b at *
  generalize sumT (lst C q) k = c at *
  unfold wrap64
  omega
/-- Two rows, one behind the other. -/
def catL (L M : Nat → ElC) (n : Nat) (i : Nat) : ElC := if i < n then L i else M (i - n)
theorem cat_lst (L M : Nat → ElC) (n m : Nat) : lst (catL L M n) (n + m) = lst L n ++ lst M m := by
  rw [lst_split]
  congr 1
  · exact lst_congr fun j hj => by unfold catL; rw [if_pos hj]
  · exact lst_congr fun j _ => by unfold catL; rw [if_neg (by omega), Nat.add_sub_cancel_left]
theorem cat_flat (L M : Nat → ElC) (n m : Nat) : flatS (fun i => cellsC (L i)) n ++ flatS (fun i => cellsC (M i)) m = flatS (fun i => cellsC (catL L M n i)) (n + m) := by
  rw [flatS_append]
  exact flatS_congr fun j _ => by
    show (if j < n then cellsC (L j) else cellsC (M (j - n))) = cellsC (catL L M n j)
    unfold catL
    split <;> rfl
theorem neg_elem {E D : Nat → ElC} {n m : Nat} (h : lst E m = (lst D n).map neg) : m = n ∧ ∀ j, j < n → (E j).1.k = (D j).1.k ∧ (E j).1.r = -(D j).1.r := by
  have hm : m = n := by
    have := congrArg List.length h
    rwa [List.length_map, lst_len, lst_len] at this
  subst hm
  refine ⟨rfl, fun j hj => ?_⟩
  have h1 := congrArg (fun l => l[j]?) h
  simp only [List.getElem?_map, lst_get E m j hj, lst_get D m j hj, Option.map_some] at h1
  injection h1 with h1
  rw [h1]
  exact ⟨rfl, rfl⟩
end Go.Proofs.Ytblfkngdieffiaa
