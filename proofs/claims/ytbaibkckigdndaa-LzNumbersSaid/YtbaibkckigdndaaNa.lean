/- Layer 5 (lz): the numbers of LzNumbers, in plain Lean. -/
import Derived.Test.YtbaibkckigdndaaX
import Derived.Test.YtbaibkckigdndaaL
namespace Go.Proofs.Ytbaibkckigdndaa
open Go.RowKit
def catP (F : Nat → Pc) (n : Nat) (G : Nat → Pc) : Nat → Pc := fun i => if i < n then F i else G (i - n)
theorem exp_cat (F G : Nat → Pc) (n : Nat) : expP (catP F n G) n = expP F n := exp_congr fun i hi => if_pos hi
theorem exp_cat1 (F G : Nat → Pc) (n k : Nat) : expP (catP F n G) (n + k + 1) = (expP (catP F n G) (n + k)).bind fun out => exp1 out (G k) := by
  show (expP (catP F n G) (n + k)).bind _ = _
  have e : catP F n G (n + k) = G k := by unfold catP; rw [if_neg (by omega), Nat.add_sub_cancel_left]
  rw [e]
theorem pcs_cat (F G : Nat → Pc) (n : Nat) (m : Nat) : flatS (pcsF F) n ++ flatS (pcsF G) m = flatS (pcsF (catP F n G)) (n + m) := by
  rw [flatS_append]
  exact flatS_congr fun j hj => by
    show (if j < n then (F j).cells else (G (j - n)).cells) = (catP F n G j).cells
    unfold catP
    split <;> rfl
/-- Two bytes, then 254 great matches. -/
def fullF : Nat → Pc := fun k => if k = 0 then ⟨5, 0, 0⟩ else if k = 1 then ⟨6, 0, 0⟩ else ⟨0, 258, 1 + ((k - 2 : Nat) : Int) % 2⟩
theorem full_2 (k : Nat) : fullF (2 + k) = ⟨0, 258, 1 + (k : Int) % 2⟩ := by
  unfold fullF
  rw [if_neg (by omega), if_neg (by omega), Nat.add_sub_cancel_left]
theorem exp_match {out : List Int} {d : Int} (h1 : 1 ≤ d) (h2 : d ≤ 2) (h3 : 2 ≤ out.length) (h4 : out.length + 258 ≤ 65536) : ∃ o, exp1 out ⟨0, 258, d⟩ = some o ∧ o.length = out.length + 258 := by
  refine ⟨cpy out d.toNat 258, ?_, cpy_len _ _ _⟩
  obtain ⟨n, hn⟩ : ∃ n, n = out.length := ⟨_, rfl⟩
  unfold exp1
  rw [if_neg (by simp), if_pos (by simp [okM]; omega)]
  refine if_neg ?_
  show ¬ 65536 < out.length + Int.toNat 258
  have e : Int.toNat 258 = 258 := rfl
  rw [e, ← hn]; omega
theorem full_exp : ∀ k, k ≤ 254 → ∃ out, expP fullF (2 + k) = some out ∧ out.length = 2 + 258 * k
  | 0, _ => ⟨[5, 6], by kernel_rfl, rfl⟩
  | k + 1, hk => by
    obtain ⟨out, h1, h2⟩ := full_exp k (by omega)
    obtain ⟨o, h3, h4⟩ := exp_match (out := out) (d := 1 + (k : Int) % 2) (by omega) (by omega) (by omega) (by omega)
    have h5 : o.length = 2 + 258 * (k + 1) := by rw [h4, h2, Nat.mul_succ, Nat.add_assoc]
    have H1 := Lib.hid h1
    clear h1 h2 h4
    refine ⟨o, ?_, h5⟩
    clear h5
    show (expP fullF (2 + k)).bind _ = _
    rw [H1.out, show Nat.add 2 k = 2 + k from rfl, full_2]
    exact h3
def one1 : Nat → Pc := fun _ => ⟨1, 0, 0⟩
theorem exp_one {out : List Int} (h : out.length + 1 ≤ 65536) : exp1 out ⟨1, 0, 0⟩ = some (out ++ [1]) := by
  unfold exp1
  rw [if_pos ⟨rfl, rfl⟩, if_neg (by omega)]
theorem full_ones : (∃ out, expP (catP fullF 256 one1) 258 = some out ∧ out.length = 65536) ∧ expP (catP fullF 256 one1) 259 = none ∧ expP (catP fullF 256 fun _ => ⟨0, 3, 1⟩) 257 = none := by
  obtain ⟨out, h1, h2⟩ := full_exp 254 (Nat.le_refl _)
  have e0 : expP (catP fullF 256 one1) 256 = some out := (exp_cat _ _ _).trans h1
  have e1 : expP (catP fullF 256 one1) 257 = some (out ++ [1]) := by
    rw [exp_cat1 fullF one1 256 0, e0]
    exact exp_one (by omega)
  have e2 : expP (catP fullF 256 one1) 258 = some (out ++ [1] ++ [1]) := by
    rw [exp_cat1 fullF one1 256 1, e1]
    exact exp_one (by simp; omega)
  refine ⟨⟨_, e2, by simp; omega⟩, ?_, ?_⟩
  · rw [exp_cat1 fullF one1 256 2, e2]
    show exp1 _ ⟨1, 0, 0⟩ = none
    unfold exp1
    rw [if_pos ⟨rfl, rfl⟩, if_pos (by simp; omega)]
  · have e3 : expP (catP fullF 256 fun _ => ⟨0, 3, 1⟩) 256 = some out := (exp_cat _ _ _).trans h1
    rw [exp_cat1 fullF _ 256 0, e3]
    show exp1 _ ⟨0, 3, 1⟩ = none
    unfold exp1
    rw [if_neg (by simp), if_pos (by simp [okM]; omega), if_pos (by simp; omega)]
/-- The bytes abc, noughts, abc. -/
def abcF (n : Nat) : Nat → Int := fun i => if i = 0 ∨ i = n + 3 then 97 else if i = 1 ∨ i = n + 4 then 98 else if i = 2 ∨ i = n + 5 then 99 else 0
end Go.Proofs.Ytbaibkckigdndaa
