/- Layer 22 (index): wanted and let go: the plain law. -/
import Derived.Test.YtnindkpgmiafnaaOa
import Derived.Test.YtnindkpgmiafnaaPick
namespace Go.Proofs.Ytnindkpgmiafnaa
open Go.RowKit
/-- What is wanted kk times, let go so often, let go altogether, and added anew. -/
structure BackP (R0 : List Ent) (k : List Int) (q : Pl) (kk : Int) (R1 R2 R3 : List Ent) (rr : Int) : Prop where
  e1 : wantE R0 k kk = 0
  r1 : wantR R0 k kk = R1
  l1 : lookR k R1 = some ⟨q.a, q.n, q.u, q.r + kk⟩
  n1 : R1.length = R0.length
  a2 : 0 < q.r → wantE R1 k (-kk) = 0 ∧ wantR R1 k (-kk) = R0 ∧ R2 = R0
  b2 : ¬ 0 < q.r → R2 = R1
  n2 : R2.length = R0.length
  l2 : lookR k R2 = some ⟨q.a, q.n, q.u, rr⟩
  rrb : 0 < rr ∧ rr ≤ 2147483647
  e3 : wantE R2 k (-rr) = 0
  r3 : wantR R2 k (-rr) = R3
  l3 : lookR k R3 = none
  n3 : R3.length + 1 = R0.length
  e4 : addE R3 k q = 0
  r4 : addR R3 k q = R0
theorem backP {R0 : List Ent} {k : List Int} {q : Pl} {kk : Int} (hr : Rise R0) (hk : KeyOk 32 k) (hl : lookR k R0 = some q) (h1 : 1 ≤ kk) (h2 : q.r ≤ 2147483647 - kk) : ∃ R1 R2 R3 rr, BackP R0 k q kk R1 R2 R3 rr := by
  have hm := look_may hl
  have hm2 := may_true.1 hm
  have w1 := want_set (x := kk) hk hl ⟨by omega, by omega⟩ (by omega)
  have hr1 : Rise (wantR R0 k kk) := rise_want hr
  have l1 := w1.2.2 k
  rw [if_pos rfl] at l1
  obtain ⟨R1, hR1⟩ : ∃ R1, R1 = wantR R0 k kk := ⟨_, rfl⟩
  rw [← hR1] at w1 hr1 l1
  -- what is common: a row with the same keys, where k has rr
  have fin : ∀ (R2 : List Ent) (rr : Int), Rise R2 → lookR k R2 = some ⟨q.a, q.n, q.u, rr⟩ → 0 < rr → rr ≤ 2147483647 → R2.length = R0.length → (∀ y, y ≠ k → lookR y R2 = lookR y R0) → ∃ R3, wantE R2 k (-rr) = 0 ∧ wantR R2 k (-rr) = R3 ∧ lookR k R3 = none ∧ R3.length + 1 = R0.length ∧ addE R3 k q = 0 ∧ addR R3 k q = R0 := by
    intro R2 rr hr2 l2 hrr hrr2 hn ho
    have w3 := want_del (x := -rr) hr2 l2 ⟨by dsimp only; omega, by dsimp only; omega⟩ (by dsimp only; omega)
    have hr3 : Rise (wantR R2 k (-rr)) := rise_want hr2
    have l3 := w3.2.2 k
    rw [if_pos rfl] at l3
    have h4 := add_new (p := q) hm l3
    refine ⟨_, w3.1, rfl, l3, by rw [← hn]; exact w3.2.1, h4.1, ?_⟩
    refine look_ext (rise_add hr3 hk) hr fun y _ => ?_
    rw [look_addR hr3 hk y]
    by_cases hy : y = k
    · rw [if_pos ⟨hy, hm, l3⟩, hy, hl]
    · rw [if_neg (fun h => hy h.1), w3.2.2 y, if_neg hy, ho y hy]
  by_cases hq : 0 < q.r
  · have w2 := want_set (x := -kk) hk l1 ⟨by dsimp only; omega, by dsimp only; omega⟩ (by dsimp only; omega)
    have e2 : wantR R1 k (-kk) = R0 := look_ext (rise_want hr1) hr fun y _ => by
      rw [w2.2.2 y, w1.2.2 y]
      by_cases hy : y = k
      · rw [if_pos hy, hy, hl]
        have : q.r + kk + -kk = q.r := by omega
        dsimp only
        rw [this]
      · rw [if_neg hy, if_neg hy]
    obtain ⟨R3, f1, f2, f3, f4, f5, f6⟩ := fin R0 q.r hr hl hq (by omega) rfl (fun _ _ => rfl)
    exact ⟨R1, R0, R3, q.r, w1.1, hR1.symm, l1, w1.2.1, fun _ => ⟨w2.1, e2, rfl⟩, fun h => absurd hq h, rfl, hl, ⟨hq, by omega⟩, f1, f2, f3, f4, f5, f6⟩
  · have hq0 : q.r = 0 := by omega
    obtain ⟨R3, f1, f2, f3, f4, f5, f6⟩ := fin R1 (q.r + kk) hr1 l1 (by omega) (by omega) w1.2.1 (fun y hy => by rw [w1.2.2 y, if_neg hy])
    exact ⟨R1, R1, R3, q.r + kk, w1.1, hR1.symm, l1, w1.2.1, fun h => absurd h hq, fun _ => rfl, w1.2.1, l1, ⟨by omega, by omega⟩, f1, f2, f3, f4, f5, f6⟩
theorem none_want {R : List Ent} {k : List Int} (h : lookR k R = none) (x : Int) : wantE R k x = 6 ∧ wantR R k x = R ∧ moveE R k x = 6 ∧ moveR R k x = R := by
  unfold wantE wantR moveE moveR
  rw [h]
  exact ⟨rfl, rfl, rfl, rfl⟩
end Go.Proofs.Ytnindkpgmiafnaa
