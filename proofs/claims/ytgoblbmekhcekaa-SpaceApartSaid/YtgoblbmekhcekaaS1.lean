/- What is taken lies apart (layer 19), in plain numbers. -/
import Derived.Test.YtgoblbmekhcekaaI
namespace Go.Proofs.Ytgoblbmekhcekaa
open Go.RowKit
/-- What was taken, and where it lies. -/
structure Ap (g : Geo) (f : Nat → Int) (s : Nw × List Nw) (S : Int → Bool) : Prop where
  ok : s.1.Ok g
  own : ∀ x, S x = true → ∃ k : Nat, s.1.fr[k]? = some false ∧ segs g + k * g.G ≤ x ∧ x < segs g + k * g.G + g.G ∧ (s.1.op = (k : Int) → x < segs g + k * g.G + s.1.fl)
  used : ∀ k : Nat, (k : Int) < g.S → 0 < f k → s.1.fr[k]? = some false ∧ s.1.op ≠ (k : Int)
theorem ap_new {g : Geo} {f : Nat → Int} {n : Nat} (h : newB g f n = true) : Ap g f (⟨freesL f (-1) n, -1, 0⟩, []) (fun _ => false) := by
  obtain ⟨h1, h2, h3, h4⟩ := newB_counts h
  refine ⟨ok_new h, fun x hx => by simp at hx, fun k hk hf => ⟨?_, ?_⟩⟩
  · show (freesL f (-1) n)[k]? = some false
    rw [freesL_at f (-1) (show k < n by omega)]
    simp [hf]
  · show (-1 : Int) ≠ k
    omega
/-- What a Take that took tells. -/
structure Took (g : Geo) (f : Nat → Int) (s s' : Nw × List Nw) (S : Int → Bool) (x : Int) (deep : Bool) (a : Int) (K : Nat) : Prop where
  op : s'.1.op = K
  lt : (K : Int) < g.S
  free : f K ≤ 0
  in1 : inV g a = ((K : Int), true)
  in2 : inV g (a + x - 1) = ((K : Int), true)
  lo : 0 ≤ a
  hi : a + x ≤ 262144
  no : ∀ y, a ≤ y → y < a + x → S y = false
  ap : Ap g f s' (fun y => S y || (decide (a ≤ y) && decide (y < a + x)))
  most : deep = false → s'.1.fr.count true < 1 → s.1.fr.count true = 0
theorem seg_apart {g : Geo} {k K : Nat} {x : Int} (hG : 0 ≤ g.G) (h1 : segs g + k * g.G ≤ x) (h2 : x < segs g + k * g.G + g.G) (h3 : segs g + K * g.G ≤ x) (h4 : x < segs g + K * g.G + g.G) : k = K := by
  rcases Nat.lt_trichotomy k K with h | h | h
  · have := Int.mul_le_mul_of_nonneg_right (show ((k : Int) + 1) ≤ K by omega) hG
    rw [Int.add_mul] at this; omega
  · exact h
  · have := Int.mul_le_mul_of_nonneg_right (show ((K : Int) + 1) ≤ k by omega) hG
    rw [Int.add_mul] at this; omega
theorem segV_in {g : Geo} {K : Nat} (h : rightB g = true) (hK : (K : Int) < g.S) : segV g K = segs g + K * g.G := by
  unfold segV
  rw [if_pos ⟨h, by omega, hK⟩]
  rfl
/-- A Take that took. -/
theorem took {g : Geo} {f : Nat → Int} {s : Nw × List Nw} {S : Int → Bool} {x : Int} {deep : Bool} (hr : rightB g = true) (h : Ap g f s S) (hx : 1 ≤ x) (hxG : x ≤ g.G) (hno : (needB g s.1 x && noB s.1 deep) = false) :
    ∃ a K, (takeR g s.1 s.2 x deep).at_ = a ∧ (takeR g s.1 s.2 x deep).err = 0 ∧ Took g f s ((takeR g s.1 s.2 x deep).n, (takeR g s.1 s.2 x deep).was) S x deep a K := by
  have hf := fine_right hr
  have hts := total_segs g
  have htr : total g ≤ 262144 := total_right hr
  have hsg : 0 ≤ segs g := by have := hf.pages; have := hf.j1; unfold segs; omega
  have hG : 0 ≤ g.G := by omega
  have hl := h.ok.len
  unfold takeR
  rw [if_neg (by omega)]
  cases c2 : needB g s.1 x
  · simp only [Bool.false_eq_true, if_false]
    simp only [needB, Bool.or_eq_false_iff, decide_eq_false_iff_not] at c2
    rcases h.ok.op with h1 | ⟨o1, o2, o3⟩
    · exact absurd h1.1 c2.1
    obtain ⟨K, hK⟩ : ∃ K : Nat, s.1.op = K := ⟨s.1.op.toNat, by omega⟩
    rw [hK, Int.toNat_natCast] at o3
    have hKS : (K : Int) < g.S := by omega
    have hm := seg_bd hf (show (0 : Int) ≤ K by omega) hKS
    have f1 := h.ok.f1
    have eV := segV_in hr hKS
    refine ⟨segV g s.1.op + s.1.fl, K, rfl, trivial, ?_⟩
    rw [hK, eV]
    refine ⟨hK, hKS, ?_, in_here hr (by omega) hKS (by omega) (by omega), in_here hr (by omega) hKS (by omega) (by omega), by omega, by omega, fun y y1 y2 => ?_, ⟨?_, fun y hy => ?_, fun k hk hk2 => ?_⟩, ?_⟩
    · by_cases e : 0 < f K
      · exact absurd hK (h.used K hKS e).2
      · omega
    · cases e : S y
      · rfl
      · obtain ⟨k, k1, k2, k3, k4⟩ := h.own y e
        have := seg_apart hG k2 k3 (show segs g + K * g.G ≤ y by omega) (by omega)
        subst this
        have := k4 hK
        omega
    · exact ok_more h.ok ⟨o1, o2, f1, by omega, hf.g2, h.ok.le hf⟩ hx
    · rcases Bool.or_eq_true _ _ |>.mp hy with e | e
      · obtain ⟨k, k1, k2, k3, k4⟩ := h.own y e
        exact ⟨k, k1, k2, k3, fun e2 => by have := k4 e2; show y < segs g + k * g.G + (s.1.fl + x); omega⟩
      · simp only [Bool.and_eq_true, decide_eq_true_eq] at e
        exact ⟨K, o3, by omega, by omega, fun _ => by show y < segs g + K * g.G + (s.1.fl + x); omega⟩
    · exact h.used k hk hk2
    · intro _ hc
      have : (more s.1 x).fr.count true < 1 := hc
      have : s.1.fr.count true < 1 := this
      omega
  · rw [c2, Bool.true_and] at hno
    simp only [if_true, hno, Bool.false_eq_true, if_false]
    simp only [noB, Bool.or_eq_false_iff, Bool.and_eq_false_iff, decide_eq_false_iff_not, Bool.not_eq_false'] at hno
    obtain ⟨n1, n2⟩ := hno
    have h0 : 0 < s.1.fr.count true := by omega
    obtain ⟨q1, q2, q3⟩ := fst_of s.1.fr h0
    obtain ⟨K, hK⟩ : ∃ K, K = fst s.1.fr := ⟨_, rfl⟩
    have hKS : (K : Int) < g.S := by omega
    have hm := seg_bd hf (show (0 : Int) ≤ K by omega) hKS
    have eV := segV_in hr hKS
    refine ⟨segV g (fst s.1.fr : Nat), K, rfl, trivial, ?_⟩
    rw [← hK] at q1 q2
    rw [← hK, eV]
    have hset : ∀ k : Nat, (s.1.fr.set K false)[k]? = if k = K then some false else s.1.fr[k]? := fun k => by
      rw [List.getElem?_set]
      by_cases e : K = k
      · subst e; simp [q1]
      · rw [if_neg e, if_neg (fun h => e h.symm)]
    refine ⟨by show ((fst s.1.fr : Nat) : Int) = K; rw [hK], hKS, ?_, in_here hr (by omega) hKS (by omega) (by omega), in_here hr (by omega) hKS (by omega) (by omega), by omega, by omega, fun y y1 y2 => ?_, ⟨?_, fun y hy => ?_, fun k hk hk2 => ?_⟩, ?_⟩
    · by_cases e : 0 < f K
      · have := (h.used K hKS e).1
        rw [q2] at this; cases this
      · omega
    · cases e : S y
      · rfl
      · obtain ⟨k, k1, k2, k3, k4⟩ := h.own y e
        have := seg_apart hG k2 k3 (show segs g + K * g.G ≤ y by omega) (by omega)
        subst this
        rw [q2] at k1; cases k1
    · exact ok_opened h.ok h0 (by omega) hxG
    · rcases Bool.or_eq_true _ _ |>.mp hy with e | e
      · obtain ⟨k, k1, k2, k3, k4⟩ := h.own y e
        have hkK : k ≠ K := fun e2 => by subst e2; rw [q2] at k1; cases k1
        refine ⟨k, ?_, k2, k3, fun e2 => ?_⟩
        · show (s.1.fr.set (fst s.1.fr) false)[k]? = some false
          rw [← hK, hset, if_neg hkK]; exact k1
        · have : ((fst s.1.fr : Nat) : Int) = k := e2
          omega
      · simp only [Bool.and_eq_true, decide_eq_true_eq] at e
        refine ⟨K, ?_, by omega, by omega, fun _ => by show y < segs g + K * g.G + x; omega⟩
        show (s.1.fr.set (fst s.1.fr) false)[K]? = some false
        rw [← hK, hset, if_pos rfl]
    · obtain ⟨u1, u2⟩ := h.used k hk hk2
      have hkK : k ≠ K := fun e2 => by subst e2; rw [q2] at u1; cases u1
      refine ⟨?_, ?_⟩
      · show (s.1.fr.set (fst s.1.fr) false)[k]? = some false
        rw [← hK, hset, if_neg hkK]; exact u1
      · show ((fst s.1.fr : Nat) : Int) ≠ k
        omega
    · intro hd hc
      have hc2 : (s.1.fr.set (fst s.1.fr) false).count true < 1 := hc
      rw [← hK, List.count_set q1] at hc2
      have : s.1.fr[K] = true := by
        have := List.getElem?_eq_getElem q1
        rw [q2] at this; simpa using this.symm
      simp [this] at hc2
      rcases n2 with n2 | n2
      · omega
      · rw [hd] at n2; cases n2
end Go.Proofs.Ytgoblbmekhcekaa
