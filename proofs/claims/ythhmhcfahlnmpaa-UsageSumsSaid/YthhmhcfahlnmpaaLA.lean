/- Part of the proof of the statements of layer 11 (layout): what the functions of the layer compute, at every input. No condition. -/
import Derived.Test.YthhmhcfahlnmpaaArr
import Derived.BigQuiet
import Derived.Deep.QuietTactic
import Derived.Deep.RegionHeld3
import Derived.Lib.Hide
import Derived.Test.YthhmhcfahlnmpaaProg
namespace Go.Proofs.Ythhmhcfahlnmpaa
open Go.RowKit
/-- A geometry's five numbers. -/
structure Geo where
  V : Int
  S : Int
  G : Int
  U : Int
  J : Int
abbrev gv (g : Geo) : Value := .agg #[.int .i64 g.V, .int .i64 g.S, .int .i64 g.G, .int .i64 g.U, .int .i64 g.J]
abbrev gcs (g : Geo) : Array Value := #[.int .i64 g.V, .int .i64 g.S, .int .i64 g.G, .int .i64 g.U, .int .i64 g.J]
def frm (n a b : Int) : Bool := decide (a ≤ n) && decide (n ≤ b)
theorem frm_true {n a b : Int} (h : frm n a b = true) : a ≤ n ∧ n ≤ b := by simpa [frm] using h
def pagesN (g : Geo) : Int := 2 + (g.S * g.G + 9 * (g.V / 8) + 8) / 4
def total (g : Geo) : Int := 2 + 2 * g.J + 4 * pagesN g + g.S * g.G
def fieldsB (g : Geo) : Bool := frm g.V 8 4096 && (g.V % 8 == 0) && frm g.S 2 256 && frm g.U 1 16 && frm g.G (2 * (8 * g.U + 1)) 1024 && frm g.J 8 64
def rightB (g : Geo) : Bool := fieldsB g && decide (total g ≤ 262144)
theorem prod_bd {S G : Int} (h1 : 2 ≤ S) (h2 : S ≤ 256) (h3 : 16 ≤ G) (h4 : G ≤ 1024) : 32 ≤ S * G ∧ S * G ≤ 262144 := by
  constructor
  · have := Int.mul_le_mul h1 h3 (by omega) (by omega); omega
  · have := Int.mul_le_mul h2 h4 (by omega) (by omega); omega
set_option maxHeartbeats 400000 in
theorem from27 (n a b : Int) (w : World) : Calls Try.prog 35 #[.int .i64 n, .int .i64 a, .int .i64 b] w fun e w' => e = .returned (.bool (frm n a b)) ∧ w = w' := by
  by_cases h1 : a ≤ n
  · by_cases h2 : n ≤ b
    · go_enter Try.func35, Try.ntmps35
      go_wp2
      go_ret
      exact ⟨by simp [frm, h1, h2], rfl⟩
    · have d2 : decide (n ≤ b) = false := by simpa using h2
      go_enter Try.func35, Try.ntmps35
      go_wp2
      go_ret
      exact ⟨by simp [frm, h2], rfl⟩
  · have d1 : decide (a ≤ n) = false := by simpa using h1
    go_enter Try.func35, Try.ntmps35
    go_wp2
    go_ret
    exact ⟨by simp [frm]; omega, rfl⟩
theorem from27t (n a b : Int) (w : World) (h : frm n a b = true) : Calls Try.prog 35 #[.int .i64 n, .int .i64 a, .int .i64 b] w fun e w' => e = .returned (.bool true) ∧ w = w' := h ▸ from27 n a b w
theorem from27f (n a b : Int) (w : World) (h : frm n a b = false) : Calls Try.prog 35 #[.int .i64 n, .int .i64 a, .int .i64 b] w fun e w' => e = .returned (.bool false) ∧ w = w' := h ▸ from27 n a b w
/-- pages, of whatever numbers: some number. -/
def SomeInt (w : World) (e : Ending) (w' : World) : Prop := ∃ n : Int, e = .returned (.int .i64 n) ∧ Below w.heap.size w w'
set_option maxHeartbeats 400000 in
theorem pages31any (g : Geo) (w : World) : Calls Try.prog 64 #[gv g] w (SomeInt w) := by
  go_enter Try.func64, Try.ntmps64
  go_wp2
  go_ret
  exact ⟨_, rfl, (Below.refl _ _).alloc (Nat.le_refl _) _⟩
set_option maxHeartbeats 400000 in
theorem pages31 (g : Geo) (w : World) (h1 : 0 ≤ g.V) (h2 : g.V ≤ 4096) (h3 : 0 ≤ g.S * g.G) (h4 : g.S * g.G ≤ 262144) :
    Calls Try.prog 64 #[gv g] w fun e w' => e = .returned (.int .i64 (pagesN g)) ∧ Below w.heap.size w w' := by
  go_enter Try.func64, Try.ntmps64
  go_wp2
  go_ret
  exact ⟨rfl, (Below.refl _ _).alloc (Nat.le_refl _) _⟩
set_option maxHeartbeats 400000 in
theorem pages32 (g : Geo) (w : World) (h1 : 0 ≤ g.V) (h2 : g.V ≤ 4096) (h3 : 0 ≤ g.S * g.G) (h4 : g.S * g.G ≤ 262144) :
    Calls Try.prog 75 #[gv g] w fun e w' => e = .returned (.int .i64 (pagesN g)) ∧ Below w.heap.size w w' := by
  go_enter Try.func75, Try.ntmps75
  go_wp2
  go_ret
  exact ⟨rfl, (Below.refl _ _).alloc (Nat.le_refl _) _⟩
end Go.Proofs.Ythhmhcfahlnmpaa
