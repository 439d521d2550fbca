/- Pieces of layer 3 (bitio): how they lie in memory; the places and the number that they make, in plain words. -/
import Derived.Test.YtkkjcbakgjabdaaG
namespace Go.Proofs.Ytkkjcbakgjabdaa
open Go.RowKit
/-- Pieces: numbers, lengths, whether they begin a byte. -/
structure Pc where
  V : Nat → Nat
  N : Nat → Int
  al : Nat → Bool
/-- n pieces in memory. -/
def Pcs (w : World) (B : Nat) (A : Option Addr) (n : Nat) (g : Pc) : Prop := 0 < n → ∃ b off, A = some ⟨b, off, none⟩ ∧ b < B ∧ ∀ j, j < n →
  w.cell? ⟨b, off + j * 3, none⟩ = some (.int .u32 (g.V j : Nat)) ∧ w.cell? ⟨b, off + j * 3 + 1, none⟩ = some (.int .i64 (g.N j)) ∧ w.cell? ⟨b, off + j * 3 + 2, none⟩ = some (.bool (g.al j))
theorem Pcs.below {w w' : World} {B : Nat} {A : Option Addr} {n : Nat} {g : Pc} (h : Pcs w B A n g) {B' : Nat} (hb : Below B' w w') (hB : B ≤ B') : Pcs w' B A n g := fun h0 => by
  obtain ⟨b, off, e, hl, hc⟩ := h h0
  refine ⟨b, off, e, hl, fun j hj => ?_⟩
  obtain ⟨h1, h2, h3⟩ := hc j hj
  exact ⟨(hb.cell (p := ⟨b, off + j * 3, none⟩) (by show b < B'; omega)).trans h1, (hb.cell (p := ⟨b, off + j * 3 + 1, none⟩) (by show b < B'; omega)).trans h2, (hb.cell (p := ⟨b, off + j * 3 + 2, none⟩) (by show b < B'; omega)).trans h3⟩
theorem Pcs.less {w : World} {B : Nat} {A : Option Addr} {n m : Nat} {g : Pc} (h : Pcs w B A n g) (hm : m ≤ n) : Pcs w B A m g := fun h0 => by
  obtain ⟨b, off, e, hl, hc⟩ := h (by omega)
  exact ⟨b, off, e, hl, fun j hj => hc j (by omega)⟩
theorem Pcs.more {w : World} {B B' : Nat} {A : Option Addr} {n : Nat} {g : Pc} (h : Pcs w B A n g) (hB : B ≤ B') : Pcs w B' A n g := fun h0 => by
  obtain ⟨b, off, e, hl, hc⟩ := h h0
  exact ⟨b, off, e, by omega, hc⟩
/-- Each number fits its kind. -/
def Pc.Ok (g : Pc) (n : Nat) : Prop := ∀ j, j < n → g.V j < 4294967296 ∧ -9223372036854775808 ≤ g.N j ∧ g.N j ≤ 9223372036854775807
theorem Pc.Ok.less {g : Pc} {n m : Nat} (h : g.Ok n) (hm : m ≤ n) : g.Ok m := fun j hj => h j (by omega)
def up8 (o : Nat) : Nat := 8 * ((o + 7) / 8)
def Pc.sz (g : Pc) (i : Nat) : Nat := (g.N i % 33).toNat
def Pc.pl (g : Pc) : Nat → Nat
  | 0 => 0
  | i + 1 => (if g.al i then up8 (g.pl i) else g.pl i) + g.sz i
def Pc.pa (g : Pc) (i : Nat) : Nat := if g.al i then up8 (g.pl i) else g.pl i
def Pc.nm (g : Pc) : Nat → Nat
  | 0 => 0
  | i + 1 => g.nm i + g.V i % 2 ^ g.sz i * 2 ^ g.pa i
theorem Pc.sz_le (g : Pc) (i : Nat) : g.sz i ≤ 32 := by unfold Pc.sz; omega
theorem Pc.sz_cast (g : Pc) (i : Nat) : g.N i % 33 = (g.sz i : Nat) := by unfold Pc.sz; omega
theorem Pc.pl_succ (g : Pc) (i : Nat) : g.pl (i + 1) = g.pa i + g.sz i := rfl
theorem Pc.pa_ge (g : Pc) (i : Nat) : g.pl i ≤ g.pa i ∧ g.pa i ≤ g.pl i + 7 := by unfold Pc.pa up8; split <;> omega
theorem Pc.pl_le (g : Pc) : ∀ i, g.pl i ≤ 39 * i
  | 0 => Nat.le_refl _
  | i + 1 => by
    have h1 := g.pl_le i
    have h2 := g.pa_ge i
    have h3 := g.sz_le i
    rw [g.pl_succ]; omega
theorem Pc.pl_mono (g : Pc) {i j : Nat} (h : i ≤ j) : g.pl i ≤ g.pl j := by
  induction j with
  | zero => obtain rfl : i = 0 := by omega
            exact Nat.le_refl _
  | succ j ih =>
    by_cases e : i = j + 1
    · rw [e]; exact Nat.le_refl _
    · have h1 := ih (by omega)
      have h2 := g.pa_ge j
      rw [g.pl_succ]; omega
theorem Pc.nm_lt (g : Pc) : ∀ i, g.nm i < 2 ^ g.pl i
  | 0 => Nat.pow_pos (by omega)
  | i + 1 => by
    have h1 := g.nm_lt i
    rw [g.pl_succ]
    exact put_lt (Nat.lt_of_lt_of_le h1 (Nat.pow_le_pow_right (by omega) (g.pa_ge i).1))
theorem Pc.nm_get (g : Pc) (i : Nat) : ∀ n, i < n → g.nm n / 2 ^ g.pa i % 2 ^ g.sz i = g.V i % 2 ^ g.sz i
  | 0, h => absurd h (by omega)
  | n + 1, h => by
    have h0 : 0 < 2 ^ g.pa i := Nat.pow_pos (by omega)
    show (g.nm n + g.V n % 2 ^ g.sz n * 2 ^ g.pa n) / 2 ^ g.pa i % 2 ^ g.sz i = _
    by_cases e : i = n
    · subst e
      rw [Nat.add_mul_div_right _ _ h0, Nat.div_eq_of_lt (Nat.lt_of_lt_of_le (g.nm_lt i) (Nat.pow_le_pow_right (by omega) (g.pa_ge i).1)), Nat.zero_add, Nat.mod_mod]
    · rw [← g.nm_get i n (by omega)]
      have h1 : g.pa i + g.sz i ≤ g.pa n := by
        have h2 := g.pl_mono (show i + 1 ≤ n by omega)
        rw [g.pl_succ] at h2
        have h3 := (g.pa_ge n).1
        omega
      have e2 : 2 ^ g.pa n = 2 ^ g.pa i * (2 ^ g.sz i * 2 ^ (g.pa n - g.pa i - g.sz i)) := by
        rw [← Nat.pow_add, ← Nat.pow_add]; congr 1; omega
      rw [e2, Nat.mul_left_comm, Nat.add_mul_div_left _ _ h0, Nat.mul_left_comm, Nat.add_mul_mod_self_left]
/-- Rows of other kinds never share a block. -/
theorem row_blk_ne {w : World} {base size p n : Nat} {e : TypeId} {v : Value} {xs : List Value} {cs : Array Value} {t : TypeId} (h : w.ownsRow base e size v n xs) (hp : w.heap[p]? = some (.cells cs t (0, 0))) (ht : e ≠ t) : v.ownBlock ≠ some p := by
  rcases h.2 with ⟨rfl, _⟩ | ⟨g, cap, cur, rfl, _, hg, _⟩
  · simp [Value.ownBlock]
  · intro he
    have : g = p := by simpa [Value.ownBlock] using he
    subst this
    rw [hg] at hp
    injection hp with hp
    injection hp with _ e
    exact ht e
theorem row_row_ne {w : World} {base base' size size' n n' : Nat} {e e' : TypeId} {v v' : Value} {xs xs' : List Value} (h : w.ownsRow base e size v n xs) (h' : w.ownsRow base' e' size' v' n' xs') (ht : e ≠ e') (k : Nat) (hk : v.ownBlock = some k) : v'.ownBlock ≠ some k := by
  rcases h.2 with ⟨rfl, _⟩ | ⟨g, cap, cur, rfl, _, hg, _⟩
  · simp [Value.ownBlock] at hk
  · have : g = k := by simpa [Value.ownBlock] using hk
    subst this
    exact row_blk_ne h' hg (Ne.symm ht)
end Go.Proofs.Ytkkjcbakgjabdaa
