/- Layer 22 (index): adds of places under keys that differ, in any order: the plain law. -/
import Derived.Test.YtnindkpgmiafnaaUd
namespace Go.Proofs.Ytnindkpgmiafnaa
theorem i64_bdo {x : Int} (h : (Lit.int .i64 x).wf = true) : -9223372036854775808 ≤ x ∧ x ≤ 9223372036854775807 := by
  have hmin : IntKind.i64.min = -9223372036854775808 := rfl
  have hmax : IntKind.i64.max = 9223372036854775807 := rfl
  simp only [Lit.wf, Bool.and_eq_true, decide_eq_true_eq, hmin, hmax] at h
  omega
/-- All of a list of deeds, added one after the other. -/
noncomputable def addAll (l : List Deed) (R : List Ent) : List Ent := l.foldl (fun R d => addR R d.k d.q) R
theorem addAll_cons (d : Deed) (l : List Deed) (R : List Ent) : addAll (d :: l) R = addAll l (addR R d.k d.q) := rfl
theorem addAll_snoc (d : Deed) (l : List Deed) (R : List Ent) : addAll (l ++ [d]) R = addR (addAll l R) d.k d.q := by simp [addAll]
theorem look_addR {R : List Ent} {k : List Int} {q : Pl} (hr : Rise R) (hk : KeyOk 32 k) (k' : List Int) : lookR k' (addR R k q) = if k' = k ∧ mayB q = true ∧ lookR k R = none then some q else lookR k' R := by
  unfold addR
  by_cases h : mayB q = true ∧ lookR k R = none
  · rw [if_pos h, look_ins hr (by rw [mkE_k hk h.1]; exact h.2), mkE_k hk h.1, mkE_p hk h.1]
    by_cases h2 : k' = k
    · rw [if_pos h2, if_pos ⟨h2, h⟩]
    · rw [if_neg h2, if_neg (fun h3 => h2 h3.1)]
  · rw [if_neg h, if_neg (fun h3 => h h3.2)]
theorem rise_addAll : ∀ {l : List Deed} {R : List Ent}, (∀ d ∈ l, KeyOk 32 d.k) → Rise R → Rise (addAll l R)
  | [], _, _, hr => hr
  | d :: l, R, hk, hr => rise_addAll (l := l) (R := addR R d.k d.q) (fun e he => hk e (List.mem_cons_of_mem _ he)) (rise_add hr (hk d List.mem_cons_self))
theorem len_addAll : ∀ (l : List Deed) (R : List Ent), (addAll l R).length ≤ R.length + l.length
  | [], _ => Nat.le_refl _
  | d :: l, R => by
    have h1 := len_addAll l (addR R d.k d.q)
    have h2 := add_len R d.k d.q
    rw [addAll_cons, List.length_cons]
    omega
/-- What is told of a key: the place of the one deed with that key, where it may be. -/
theorem look_addAll : ∀ {l : List Deed} {R : List Ent}, (∀ d ∈ l, KeyOk 32 d.k) → Rise R → (l.map Deed.k).Nodup → (∀ d ∈ l, lookR d.k R = none) → ∀ k p, lookR k (addAll l R) = some p ↔ lookR k R = some p ∨ ∃ d ∈ l, d.k = k ∧ mayB d.q = true ∧ d.q = p
  | [], R, _, _, _, _, k, p => by simp [addAll]
  | d :: l, R, hk, hr, hn, h0, k, p => by
    have hd := hk d List.mem_cons_self
    rw [List.map_cons, List.nodup_cons] at hn
    have hl : ∀ e ∈ l, lookR e.k (addR R d.k d.q) = none := fun e he => by
      rw [look_addR hr hd, if_neg (fun h => hn.1 (by rw [← h.1]; exact List.mem_map_of_mem he))]
      exact h0 e (List.mem_cons_of_mem _ he)
    rw [addAll_cons, look_addAll (fun e he => hk e (List.mem_cons_of_mem _ he)) (rise_add hr hd) hn.2 hl, look_addR hr hd]
    have hd0 := h0 d List.mem_cons_self
    by_cases h1 : k = d.k
    · subst h1
      by_cases h2 : mayB d.q = true
      · rw [if_pos ⟨rfl, h2, hd0⟩, hd0]
        constructor
        · rintro (h | ⟨e, he, h3, h4, h5⟩)
          · exact .inr ⟨d, List.mem_cons_self, rfl, h2, Option.some.inj h⟩
          · exact .inr ⟨e, List.mem_cons_of_mem _ he, h3, h4, h5⟩
        · rintro (h | ⟨e, he, h3, h4, h5⟩)
          · cases h
          · rcases List.mem_cons.1 he with rfl | he
            · exact .inl (by rw [h5])
            · exact .inr ⟨e, he, h3, h4, h5⟩
      · rw [if_neg (fun h => h2 h.2.1)]
        constructor
        · rintro (h | ⟨e, he, h3, h4, h5⟩)
          · exact .inl h
          · exact .inr ⟨e, List.mem_cons_of_mem _ he, h3, h4, h5⟩
        · rintro (h | ⟨e, he, h3, h4, h5⟩)
          · exact .inl h
          · rcases List.mem_cons.1 he with rfl | he
            · exact absurd h4 h2
            · exact .inr ⟨e, he, h3, h4, h5⟩
    · rw [if_neg (fun h => h1 h.1)]
      constructor
      · rintro (h | ⟨e, he, h3, h4, h5⟩)
        · exact .inl h
        · exact .inr ⟨e, List.mem_cons_of_mem _ he, h3, h4, h5⟩
      · rintro (h | ⟨e, he, h3, h4, h5⟩)
        · exact .inl h
        · rcases List.mem_cons.1 he with rfl | he
          · exact absurd h3.symm h1
          · exact .inr ⟨e, he, h3, h4, h5⟩
/-- The order says nothing. -/
theorem addAll_perm {l l' : List Deed} (hk : ∀ d ∈ l, KeyOk 32 d.k) (hn : (l.map Deed.k).Nodup) (hp : l.Perm l') : addAll l [] = addAll l' [] := by
  have hk' : ∀ d ∈ l', KeyOk 32 d.k := fun d hd => hk d (hp.mem_iff.2 hd)
  have hn' : (l'.map Deed.k).Nodup := (hp.map Deed.k).nodup_iff.1 hn
  have h0 : ∀ m : List Deed, ∀ d ∈ m, lookR d.k [] = none := fun _ _ _ => rfl
  refine look_ext (rise_addAll hk List.Pairwise.nil) (rise_addAll hk' List.Pairwise.nil) fun k _ => ?_
  apply Option.ext
  intro p
  rw [look_addAll hk List.Pairwise.nil hn (h0 l), look_addAll hk' List.Pairwise.nil hn' (h0 l')]
  constructor
  · rintro (h | ⟨d, hd, h⟩)
    · exact .inl h
    · exact .inr ⟨d, hp.mem_iff.1 hd, h⟩
  · rintro (h | ⟨d, hd, h⟩)
    · exact .inl h
    · exact .inr ⟨d, hp.mem_iff.2 hd, h⟩
end Go.Proofs.Ytnindkpgmiafnaa
