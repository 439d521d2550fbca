/- The order of keys: by their first byte that is not the same. -/
import Derived.Test.YtnindkpgmiafnaaMk
import Derived.Lib.Bytealg
import Derived.Lib.Bytes
namespace Go.Proofs.Ytnindkpgmiafnaa
open Go.RowKit
/-- The order of keys. -/
def cmpL : List Int → List Int → Int
  | [], [] => 0
  | [], _ :: _ => -1
  | _ :: _, [] => 1
  | a :: as, b :: bs => if a < b then -1 else if b < a then 1 else cmpL as bs
theorem cmpL_self : ∀ a, cmpL a a = 0
  | [] => rfl
  | a :: as => by simp [cmpL, cmpL_self as]
theorem cmpL_cases : ∀ a b, cmpL a b = -1 ∨ cmpL a b = 0 ∨ cmpL a b = 1
  | [], [] => .inr (.inl rfl)
  | [], _ :: _ => .inl rfl
  | _ :: _, [] => .inr (.inr rfl)
  | a :: as, b :: bs => by
    unfold cmpL
    split
    · exact .inl rfl
    · split
      · exact .inr (.inr rfl)
      · exact cmpL_cases as bs
theorem cmpL_anti : ∀ a b, cmpL b a = - cmpL a b
  | [], [] => rfl
  | [], _ :: _ => rfl
  | _ :: _, [] => rfl
  | a :: as, b :: bs => by
    unfold cmpL
    by_cases h1 : a < b
    · rw [if_neg (by omega), if_pos h1, if_pos h1]; rfl
    · by_cases h2 : b < a
      · rw [if_pos h2, if_neg h1, if_pos h2]
      · rw [if_neg h2, if_neg h1, if_neg h1, if_neg h2]; exact cmpL_anti as bs
theorem cmpL_eq : ∀ {a b}, cmpL a b = 0 → a = b
  | [], [], _ => rfl
  | [], _ :: _, h => by simp [cmpL] at h
  | _ :: _, [], h => by simp [cmpL] at h
  | a :: as, b :: bs, h => by
    unfold cmpL at h
    by_cases h1 : a < b
    · rw [if_pos h1] at h; omega
    · by_cases h2 : b < a
      · rw [if_neg h1, if_pos h2] at h; omega
      · rw [if_neg h1, if_neg h2] at h
        rw [show a = b by omega, cmpL_eq h]
theorem cmpL_trans : ∀ {a b c}, cmpL a b = -1 → cmpL b c = -1 → cmpL a c = -1
  | [], [], _, h, _ => by simp [cmpL] at h
  | [], _ :: _, [], _, h => by simp [cmpL] at h
  | [], _ :: _, _ :: _, _, _ => rfl
  | _ :: _, [], _, h, _ => by simp [cmpL] at h
  | _ :: _, _ :: _, [], _, h => by simp [cmpL] at h
  | a :: as, b :: bs, c :: cs, h1, h2 => by
    unfold cmpL at h1 h2 ⊢
    by_cases e1 : a < b
    · by_cases e2 : b < c
      · rw [if_pos (by omega)]
      · by_cases e3 : c < b
        · rw [if_neg e2, if_pos e3] at h2; omega
        · rw [if_pos (by omega)]
    · by_cases e2 : b < a
      · rw [if_neg e1, if_pos e2] at h1; omega
      · rw [if_neg e1, if_neg e2] at h1
        by_cases e3 : b < c
        · rw [if_pos (by omega)]
        · by_cases e4 : c < b
          · rw [if_neg e3, if_pos e4] at h2; omega
          · rw [if_neg e3, if_neg e4] at h2
            rw [if_neg (by omega), if_neg (by omega)]
            exact cmpL_trans h1 h2
def kLt (a b : List Int) : Bool := decide (cmpL a b < 0)
theorem kLt_iff {a b : List Int} : kLt a b = true ↔ cmpL a b = -1 := by
  have := cmpL_cases a b
  unfold kLt
  rw [decide_eq_true_eq]
  omega
theorem kLt_irrefl (a : List Int) : kLt a a = false := by unfold kLt; rw [cmpL_self]; rfl
theorem kLt_trans {a b c : List Int} (h1 : kLt a b = true) (h2 : kLt b c = true) : kLt a c = true := by
  rw [kLt_iff] at *; exact cmpL_trans h1 h2
theorem kLt_asymm {a b : List Int} (h : kLt a b = true) : kLt b a = false := by
  have h1 := cmpL_anti a b
  rw [kLt_iff] at h
  unfold kLt
  rw [decide_eq_false_iff_not]
  omega
theorem kLt_total {a b : List Int} (h1 : kLt a b = false) (h2 : kLt b a = false) : a = b := by
  have h3 := cmpL_anti a b
  have h4 := cmpL_cases a b
  unfold kLt at h1 h2
  rw [decide_eq_false_iff_not] at h1 h2
  exact cmpL_eq (by omega)
theorem kLt_ntrans {a b c : List Int} (h1 : kLt a b = false) (h2 : kLt b c = false) : kLt a c = false := by
  cases h : kLt a c with
  | false => rfl
  | true =>
    cases h3 : kLt b a with
    | true =>
      rw [kLt_trans h3 h] at h2; cases h2
    | false =>
      have := kLt_total h1 h3
      subst this
      rw [h] at h2; cases h2
theorem cmpL_bytes : ∀ (xs ys : List Int), (∀ v ∈ xs, 0 ≤ v ∧ v < 256) → (∀ v ∈ ys, 0 ≤ v ∧ v < 256) → Lib.compareBytes (Lib.bytesOf xs) (Lib.bytesOf ys) = cmpL xs ys
  | [], [], _, _ => rfl
  | [], _ :: _, _, _ => rfl
  | _ :: _, [], _, _ => rfl
  | x :: xs, y :: ys, hx, hy => by
    have ih := cmpL_bytes xs ys (fun v hv => hx v (by simp [hv])) (fun v hv => hy v (by simp [hv]))
    have h1 := hx x (by simp)
    have h2 := hy y (by simp)
    have e : ∀ a b : Int, (0 ≤ a ∧ a < 256) → (0 ≤ b ∧ b < 256) → (UInt8.ofNat a.toNat < UInt8.ofNat b.toNat ↔ a < b) := fun a b ha hb => by
      rw [UInt8.lt_iff_toNat_lt]
      simp only [UInt8.toNat_ofNat']
      rw [Nat.mod_eq_of_lt (by omega), Nat.mod_eq_of_lt (by omega)]
      omega
    show (if UInt8.ofNat x.toNat < UInt8.ofNat y.toNat then (-1 : Int) else if UInt8.ofNat y.toNat < UInt8.ofNat x.toNat then 1 else Lib.compareBytes (Lib.bytesOf xs) (Lib.bytesOf ys)) = _
    rw [ih, show cmpL (x :: xs) (y :: ys) = if x < y then -1 else if y < x then 1 else cmpL xs ys from rfl]
    by_cases h3 : x < y
    · rw [if_pos ((e x y h1 h2).2 h3), if_pos h3]
    · rw [if_neg (fun h => h3 ((e x y h1 h2).1 h)), if_neg h3]
      by_cases h4 : y < x
      · rw [if_pos ((e y x h2 h1).2 h4), if_pos h4]
      · rw [if_neg (fun h => h4 ((e y x h2 h1).1 h)), if_neg h4]
end Go.Proofs.Ytnindkpgmiafnaa
