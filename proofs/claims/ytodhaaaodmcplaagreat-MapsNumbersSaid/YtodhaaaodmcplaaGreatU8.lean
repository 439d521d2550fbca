/- Rows of bytes as cells. -/
import Derived.Test.YtodhaaaodmcplaaGreatMk2
import Derived.Test.YtodhaaaodmcplaaGreatBig
set_option linter.all false
namespace Go.Proofs.YtodhaaaodmcplaaGreat
open Go.RowKit
def u8l (xs : List Int) : List Value := xs.map (Value.int .u8)
theorem u8l_len (xs : List Int) : (u8l xs).length = xs.length := by simp [u8l]
theorem u8l_one (xs : List Int) : ∀ v ∈ u8l xs, v.oneCell' = true := by
  intro v hv
  simp only [u8l, List.mem_map] at hv
  obtain ⟨x, _, rfl⟩ := hv
  rfl
theorem fits_u8 : ∀ (xs : List Int), (∀ x ∈ xs, 0 ≤ x ∧ x < 256) → Fits (u8l xs) (List.replicate xs.length .u8)
  | [], _ => trivial
  | x :: xs, h => ⟨⟨x, rfl, wf_u8 (h x (by simp))⟩, fits_u8 xs fun y hy => h y (by simp [hy])⟩
theorem fits_u8l {n : Nat} {xs : List Int} (h : KeyOk n xs) : Fits (u8l xs) (List.replicate n .u8) := by
  have := fits_u8 xs h.lo
  rwa [h.len] at this
theorem keyOk_zero (n : Nat) : KeyOk n (List.replicate n 0) := ⟨by simp, fun x hx => by rw [List.eq_of_mem_replicate hx]; omega⟩
theorem wf0 : (Lit.int .i64 0).wf = true := by kernel_rfl
theorem u8l_inj {a b : List Int} (h : u8l a = u8l b) : a = b := (List.map_inj_right fun x y h => by injection h).1 h
end Go.Proofs.YtodhaaaodmcplaaGreat
