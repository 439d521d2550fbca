/- Layer 24 (refs): plain laws on counts: two rows one behind the other; the sum of all. -/
import Derived.Test.YtblfkngdieffiaaLp
namespace Go.Proofs.Ytblfkngdieffiaa
open Go.RowKit Go.Maps Go.WideMaps
def catI (I J : Nat → ElIt) (n : Nat) (i : Nat) : ElIt := if i < n then I i else J (i - n)
theorem csI_congr {I J : Nat → ElIt} : ∀ {n : Nat}, (∀ j, j < n → I j = J j) → csI I n = csI J n
  | 0, _ => rfl
  | n + 1, h => by rw [csI, csI, csI_congr fun j hj => h j (by omega), h n (by omega)]
theorem csI_cat (I J : Nat → ElIt) (n : Nat) : ∀ m, csI (catI I J n) (n + m) = csI I n ++ csI J m
  | 0 => by rw [Nat.add_zero, csI, List.append_nil]; exact csI_congr fun j hj => by unfold catI; rw [if_pos hj]
  | m + 1 => by
    have e : catI I J n (n + m) = J m := by unfold catI; rw [if_neg (by omega), Nat.add_sub_cancel_left]
    rw [← Nat.add_assoc, csI, csI, csI_cat I J n m, e, List.append_assoc]
theorem cat_flatI (I J : Nat → ElIt) (n m : Nat) : flatS (fun i => cellsIt (I i)) n ++ flatS (fun i => cellsIt (J i)) m = flatS (fun i => cellsIt (catI I J n i)) (n + m) := by
  rw [flatS_append]
  exact flatS_congr fun j _ => by
    show (if j < n then cellsIt (I j) else cellsIt (J (j - n))) = cellsIt (catI I J n j)
    unfold catI
    split <;> rfl
/-- Delta of the whole and the first is the second's counts. -/
theorem delta_row {I J : Nat → ElIt} {n m p q : Nat} {X Y : Nat → ElC} {D Z : List Ct} (hX : IsRow (csI I n) (lst X p)) (hY : IsRow (csI (catI I J n) (n + m)) (lst Y q)) (hD : IsRow (csN (-1) X p ++ csN 1 Y q) D) (hZ : IsRow (csI J m) Z) : D = Z := by
  refine IsRow.unique hD hZ fun k hk => ?_
  have x1 := sumN_neg X k p
  have y1 := sumN_pos Y k q
  have x2 := sum_row hX hk
  have y2 := sum_row hY hk
  rw [csI_cat, sumT_append] at y2
  rw [sumT_append, y1, y2]
  rw [x2] at x1
  generalize sumT (csN (-1) X p) k = x at *
  generalize sumT (csI I n) k = a at *
  generalize sumT (csI J m) k = b at *
  unfold wrap64 at *
  omega
/-- Delta of a row and itself: none. -/
theorem none_row {X : Nat → ElC} {p : Nat} {D : List Ct} (hD : IsRow (csN (-1) X p ++ csN 1 X p) D) : D = [] := by
  rcases D with _ | ⟨c, l⟩
  · rfl
  · have hk := hD.keys c (by simp)
    have h := (hD.has c.k c.r hk).1 (by simp)
    have x1 := sumN_neg X c.k p
    have y1 := sumN_pos X c.k p
    rw [sumT_append, y1] at h
    generalize sumT (csN (-1) X p) c.k = x at *
    generalize sumT (lst X p) c.k = a at *
    obtain ⟨h1, h2⟩ := h
    exfalso
    apply h2
    rw [h1]
    unfold wrap64
    omega
/-- Delta from nothing: the row. -/
theorem from_row {cs : List Ct} {X : Nat → ElC} {p : Nat} {D : List Ct} (Z : Nat → ElC) (hX : IsRow cs (lst X p)) (hD : IsRow (csN (-1) Z 0 ++ csN 1 X p) D) : D = lst X p := by
  refine IsRow.unique hD hX fun k hk => ?_
  have z : sumT (csN (-1) Z 0) k = 0 := rfl
  rw [sumT_append, z, sumN_pos X k p, sum_row hX hk]
  unfold wrap64
  omega
def tot : List Ct → Int
  | [] => 0
  | c :: l => c.r + tot l
theorem tot_append (a b : List Ct) : tot (a ++ b) = tot a + tot b := by
  induction a with
  | nil => simp [tot]
  | cons c a ih => rw [List.cons_append, tot, tot, ih]; omega
theorem tot_addC : ∀ (l : List Ct) (k : List Int), (∀ c ∈ l, -1000000000 ≤ c.r ∧ c.r ≤ 1000000000) → tot (addC l k 1) = tot l + 1
  | [], k, _ => by simp [addC, tot]
  | c :: l, k, h => by
    rw [addC]
    split
    · rw [tot, tot, tot_addC l k fun d hd => h d (by simp [hd])]; omega
    · split
      · have := h c (by simp)
        rw [tot, tot, IntWalk.wrap64_in _ (by omega)]; simp only; omega
      · rw [tot]; simp only; omega
def cntI (I : Nat → ElIt) : Nat → Nat
  | 0 => 0
  | n + 1 => cntI I n + if (I n).1.kind = 2 then 1 else 0
theorem cntI_le (I : Nat → ElIt) : ∀ n, cntI I n ≤ n
  | 0 => Nat.le_refl _
  | n + 1 => by have := cntI_le I n; unfold cntI; split <;> omega
theorem csI_ok (I : Nat → ElIt) : ∀ n, ∀ c ∈ csI I n, KeyOk 32 c.k ∧ wrap64 c.r = c.r
  | 0, c, h => by simp [csI] at h
  | n + 1, c, h => by
    rw [csI, List.mem_append] at h
    rcases h with h | h
    · exact csI_ok I n c h
    · split at h
      · obtain rfl := List.mem_singleton.1 h; exact ⟨(I n).2.sk, wrap_one⟩
      · simp at h
theorem made_bd {I : Nat → ElIt} {n : Nat} {R : List Ct} (hn : n ≤ 1000000) (h : Made (csI I n) R) : ∀ c ∈ R, 1 ≤ c.r ∧ c.r ≤ n := by
  intro c hc
  obtain ⟨hr, hk⟩ := (h.has c.k c.r (h.keys c hc)).1 hc
  obtain ⟨q1, q2, q3⟩ := csI_sum I c.k n
  have := q3 hk
  rw [IntWalk.wrap64_in _ (by omega)] at hr
  omega
theorem tot_made (I : Nat → ElIt) : ∀ n, n ≤ 1000000 → tot ((csI I n).foldl (fun R c => addC R c.k c.r) []) = cntI I n
  | 0, _ => rfl
  | n + 1, hn => by
    have ih := tot_made I n (by omega)
    have hm := made_bd (by omega) (madeOf _ (csI_ok I n))
    rw [csI, List.foldl_append, cntI]
    split
    · simp only [List.foldl_cons, List.foldl_nil]
      rw [tot_addC _ _ fun c hc => by have := hm c hc; omega, ih]
      simp
    · simp only [List.foldl_nil]
      rw [ih]; simp
/-- All counts are together as many as there are slices; each is at least 1. -/
theorem row_tot {I : Nat → ElIt} {n : Nat} {R : List Ct} (hn : n ≤ 1000000) (h : IsRow (csI I n) R) : tot R = cntI I n ∧ ∀ c ∈ R, 1 ≤ c.r ∧ c.r ≤ n := by
  have hm := madeOf _ (csI_ok I n)
  have e := IsRow.unique h (made_ones hn hm) fun _ _ => rfl
  rw [e]
  exact ⟨tot_made I n hn, made_bd hn hm⟩
theorem rises_next {X : Nat → ElC} {p i : Nat} (h : Rises (lst X p)) (hi : i + 1 < p) : kLt (X i).1.k (X (i + 1)).1.k = true := by
  unfold Rises at h
  rw [List.pairwise_iff_getElem] at h
  have h1 := h i (i + 1) (by rw [lst_len]; omega) (by rw [lst_len]; omega) (by omega)
  have g1 := lst_get X p i (by omega)
  have g2 := lst_get X p (i + 1) hi
  rw [List.getElem?_eq_getElem (by rw [lst_len]; omega)] at g1 g2
  injection g1 with g1
  injection g2 with g2
  rwa [g1, g2] at h1
theorem lst_mem' (X : Nat → ElC) {n i : Nat} (h : i < n) : (X i).1 ∈ lst X n := List.mem_of_getElem? (lst_get X n i h)
theorem tot_bd {X : Nat → ElC} : ∀ {n : Nat}, (∀ j, j < n → 0 ≤ (X j).1.r ∧ (X j).1.r ≤ 300) → 0 ≤ tot (lst X n) ∧ tot (lst X n) ≤ 300 * (n : Int)
  | 0, _ => by simp [lst, tot]
  | n + 1, h => by
    have ih := tot_bd (X := X) (n := n) fun j hj => h j (by omega)
    have hb := h n (by omega)
    rw [lst, tot_append]
    simp only [tot]
    omega
end Go.Proofs.Ytblfkngdieffiaa
