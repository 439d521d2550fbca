/- Equal bytes become few pieces; pieces of two rows, one behind the other (layer 5), in plain numbers. -/
import Derived.Test.YtbaibkckigdndaaA
namespace Go.Proofs.Ytbaibkckigdndaa
section
variable {c : Int} {n : Nat}
theorem last_eq : ∀ p, p + 2 ≤ n → lastF (fun _ => c) n c c c p = (p : Int) - 1
  | 0, _ => rfl
  | p + 1, h => by
    unfold lastF
    rw [if_pos ⟨by omega, rfl, rfl, rfl⟩]
    omega
theorem len_eq (i at_ : Nat) (h : at_ ≤ n) : lenF (fun _ => c) n i at_ = min 258 (n - at_) := by
  obtain ⟨h1, h2, -⟩ := lenF_bd (fun _ => c) n i at_ h
  have h3 : 0 + min 258 (n - at_) ≤ lenF (fun _ => c) n i at_ := lenG_ge 258 0 _ (by omega) fun t _ h => ⟨by omega, rfl⟩
  omega
theorem chain_eq (at_ : Nat) (h : at_ ≤ n) : ∀ (f : Nat) (from_ d : Int), chainF (fun _ => c) n at_ f from_ ⟨0, (min 258 (n - at_) : Nat), d⟩ = ⟨0, (min 258 (n - at_) : Nat), d⟩
  | 0, _, _ => rfl
  | f + 1, from_, d => by
    unfold chainF
    split
    · rw [len_eq _ _ h, if_neg (by show ¬ ((min 258 (n - at_) : Nat) : Int) < _; omega)]
      exact chain_eq at_ h f _ d
    · rfl
theorem step_eq (at_ : Nat) (h0 : 1 ≤ at_) (h : at_ + 3 ≤ n) : stepF (fun _ => c) n at_ = min 258 (n - at_) := by
  unfold stepF bestF
  rw [if_pos h]
  have e : prevF (fun _ => c) n at_ = (at_ : Int) - 1 := last_eq at_ (by omega)
  rw [e]
  unfold chainF
  rw [if_pos ⟨by omega, by omega⟩, len_eq _ _ (by omega), if_pos (by show (0 : Int) < (min 258 (n - at_) : Nat); omega), chain_eq at_ (by omega)]
  show max ((min 258 (n - at_) : Nat) : Int).toNat 1 = _
  omega
theorem step_0 : stepF (fun _ => c) n 0 = 1 := by
  unfold stepF bestF
  by_cases h : 0 + 3 ≤ n
  · rw [if_pos h]
    rfl
  · rw [if_neg h]
    rfl
theorem at_eq : ∀ k, 1 + 258 * k ≤ n → atF (fun _ => c) n (k + 1) = 1 + 258 * k
  | 0, _ => by rw [atF, atF, step_0]
  | k + 1, h => by
    rw [atF, at_eq k (by omega), step_eq _ (by omega) (by omega)]
    omega
/-- Equal bytes become few pieces. -/
theorem few {K : Nat} (h : All (fun _ => c) n K) : K ≤ n / 258 + 4 := by
  rcases Nat.lt_or_ge (n / 258 + 4) K with hk | hk
  · exfalso
    have h0 : 1 ≤ n := by have := h.lt 0 (by omega); simp [atF] at this; omega
    obtain ⟨q, hq⟩ : ∃ q, q = (n - 1) / 258 := ⟨_, rfl⟩
    have e1 := at_eq (c := c) (n := n) q (by omega)
    have l2 := h.lt (q + 2) (by omega)
    have l3 := h.lt (q + 3) (by omega)
    by_cases hr : 1 + 258 * q + 3 ≤ n
    · rw [atF, e1, step_eq _ (by omega) hr] at l2
      omega
    · have g2 := step_bd (b := fun _ => c) (h.lt (q + 1) (by omega))
      have g3 := step_bd (b := fun _ => c) (h.lt (q + 2) (by omega))
      have e2 : atF (fun _ => c) n (q + 2) = atF (fun _ => c) n (q + 1) + stepF (fun _ => c) n (atF (fun _ => c) n (q + 1)) := rfl
      have e3 : atF (fun _ => c) n (q + 3) = atF (fun _ => c) n (q + 2) + stepF (fun _ => c) n (atF (fun _ => c) n (q + 2)) := rfl
      omega
  · exact hk
end
/-- Pieces of two rows of bytes, one behind the other. -/
theorem exp_two {a b : Nat → Int} {n m K L : Nat} {P : Nat → Pc} (hn : n + m ≤ 65536) (hK : All a n K) (hL : All b m L) (h1 : ∀ i, i < K → P i = pcF a n i) (h2 : ∀ i, i < L → P (K + i) = pcF b m i) : expP P (K + L) = some (bytesL a n ++ bytesL b m) := by
  have e0 : expP P K = some (bytesL a n) := by rw [exp_congr h1]; exact expAll (by omega) hK
  have : ∀ j, j ≤ L → expP P (K + j) = some (bytesL a n ++ bytesL b (atF b m j)) := by
    intro j
    induction j with
    | zero => intro _; rw [Nat.add_zero, e0]; simp [atF, bytesL]
    | succ j ih =>
      intro hj
      rw [← Nat.add_assoc, expP, ih (by omega)]
      show exp1 _ (P (K + j)) = _
      rw [h2 j (by omega)]
      exact exp_pc b m (bytesL a n) (by rw [bytesL_len]; exact hn) j (hL.lt j (by omega))
  have := this L (Nat.le_refl _)
  rwa [hL.end_.1] at this
end Go.Proofs.Ytbaibkckigdndaa
