/- Plain laws on an index: entries in a row, by their keys. No program in sight. -/
import Derived.Test.YtnindkpgmiafnaaKord
import Derived.Sort.Statements
namespace Go.Proofs.Ytnindkpgmiafnaa
open Go.RowKit
structure Pl where
  a : Int
  n : Int
  u : Int
  r : Int
deriving Inhabited, DecidableEq
def mayB (p : Pl) : Bool := decide (0 ≤ p.a ∧ p.a ≤ 262144) && decide (1 ≤ p.n ∧ p.n ≤ 1024) && decide (1 ≤ p.u ∧ p.u ≤ 16) && decide (0 ≤ p.r ∧ p.r ≤ 2147483647)
theorem may_true {p : Pl} : mayB p = true ↔ (0 ≤ p.a ∧ p.a ≤ 262144) ∧ (1 ≤ p.n ∧ p.n ≤ 1024) ∧ (1 ≤ p.u ∧ p.u ≤ 16) ∧ (0 ≤ p.r ∧ p.r ≤ 2147483647) := by
  simp only [mayB, Bool.and_eq_true, decide_eq_true_eq, and_assoc]
theorem kz_ok : KeyOk 32 (List.replicate 32 0) := ⟨by simp, fun x hx => by rw [List.eq_of_mem_replicate hx]; omega⟩
/-- An entry: a key and a place that may be. -/
abbrev Ent := { e : List Int × Pl // KeyOk 32 e.1 ∧ mayB e.2 = true }
instance : Inhabited Ent := ⟨⟨(List.replicate 32 0, ⟨0, 1, 1, 0⟩), kz_ok, rfl⟩⟩
def Ent.k (e : Ent) : List Int := e.1.1
def Ent.p (e : Ent) : Pl := e.1.2
theorem Ent.key (e : Ent) : KeyOk 32 e.k := e.2.1
theorem Ent.may (e : Ent) : mayB e.p = true := e.2.2
theorem ent_ext {e f : Ent} (h1 : e.k = f.k) (h2 : e.p = f.p) : e = f := Subtype.ext (Prod.ext h1 h2)
noncomputable def mkE (k : List Int) (p : Pl) : Ent := open Classical in if h : KeyOk 32 k ∧ mayB p = true then ⟨(k, p), h⟩ else default
theorem mkE_k {k : List Int} {p : Pl} (hk : KeyOk 32 k) (hp : mayB p = true) : (mkE k p).k = k := by unfold mkE; rw [dif_pos ⟨hk, hp⟩]; rfl
theorem mkE_p {k : List Int} {p : Pl} (hk : KeyOk 32 k) (hp : mayB p = true) : (mkE k p).p = p := by unfold mkE; rw [dif_pos ⟨hk, hp⟩]; rfl
def Rise (R : List Ent) : Prop := R.Pairwise fun a b => kLt a.k b.k = true
def posR (k : List Int) : List Ent → Nat
  | [] => 0
  | e :: R => if kLt e.k k = true then posR k R + 1 else 0
def lookR (k : List Int) : List Ent → Option Pl
  | [] => none
  | e :: R => if e.k = k then some e.p else lookR k R
def insR (x : Ent) : List Ent → List Ent
  | [] => [x]
  | e :: R => if kLt e.k x.k = true then e :: insR x R else x :: e :: R
def setR (x : Ent) (R : List Ent) : List Ent := R.map fun e => if e.k = x.k then x else e
def delR (k : List Int) (R : List Ent) : List Ent := R.filter fun e => decide (e.k ≠ k)
theorem look_mem {k : List Int} {p : Pl} : ∀ {R : List Ent}, lookR k R = some p → ∃ e ∈ R, e.k = k ∧ e.p = p
  | [], h => by simp [lookR] at h
  | e :: R, h => by
    unfold lookR at h
    split at h
    · rename_i he
      exact ⟨e, by simp, he, Option.some.inj h⟩
    · obtain ⟨f, hf, h1⟩ := look_mem h
      exact ⟨f, by simp [hf], h1⟩
theorem look_none {k : List Int} : ∀ {R : List Ent}, lookR k R = none ↔ ∀ e ∈ R, e.k ≠ k
  | [] => by simp [lookR]
  | e :: R => by
    unfold lookR
    by_cases he : e.k = k
    · simp [he]
    · rw [if_neg he, look_none]; simp [he]
theorem look_of_mem : ∀ {R : List Ent} {e : Ent}, Rise R → e ∈ R → lookR e.k R = some e.p
  | [], e, _, h => by simp at h
  | f :: R, e, hr, h => by
    obtain ⟨h1, h2⟩ := List.pairwise_cons.1 hr
    unfold lookR
    rcases List.mem_cons.1 h with rfl | h
    · rw [if_pos rfl]
    · have := h1 e h
      rw [if_neg (fun he => by rw [he, kLt_irrefl] at this; cases this)]
      exact look_of_mem h2 h
theorem rise_inj {R : List Ent} (hr : Rise R) {e f : Ent} (he : e ∈ R) (hf : f ∈ R) (h : e.k = f.k) : e = f := by
  have h1 := look_of_mem hr he
  have h2 := look_of_mem hr hf
  rw [h, h2] at h1
  exact ent_ext h (Option.some.inj h1).symm
theorem rises_ext : ∀ {R R' : List Ent}, Rise R → Rise R' → (∀ c, c ∈ R ↔ c ∈ R') → R = R'
  | [], [], _, _, _ => rfl
  | [], b :: R', _, _, h => by have := (h b).2 (by simp); simp at this
  | a :: R, [], _, _, h => by have := (h a).1 (by simp); simp at this
  | a :: R, b :: R', h1, h2, h => by
    have h1' := List.pairwise_cons.1 h1
    have h2' := List.pairwise_cons.1 h2
    have hab : a = b := by
      rcases List.mem_cons.1 ((h a).1 (by simp)) with e | e
      · exact e
      · rcases List.mem_cons.1 ((h b).2 (by simp)) with e2 | e2
        · exact e2.symm
        · have h3 := h2'.1 a e
          have h4 := kLt_asymm (h1'.1 b e2)
          rw [h3] at h4; cases h4
    subst hab
    rw [rises_ext h1'.2 h2'.2 fun c => ?_]
    constructor
    · intro hc
      rcases List.mem_cons.1 ((h c).1 (by simp [hc])) with e | e
      · have := h1'.1 c hc
        rw [e, kLt_irrefl] at this; cases this
      · exact e
    · intro hc
      rcases List.mem_cons.1 ((h c).2 (by simp [hc])) with e | e
      · have := h2'.1 c hc
        rw [e, kLt_irrefl] at this; cases this
      · exact e
/-- A row is told by what stands at its keys. -/
theorem look_ext {R R' : List Ent} (hr : Rise R) (hr' : Rise R') (h : ∀ k, KeyOk 32 k → lookR k R = lookR k R') : R = R' := by
  refine rises_ext hr hr' fun c => ⟨fun hc => ?_, fun hc => ?_⟩
  · have h1 := look_of_mem hr hc
    rw [h c.k c.key] at h1
    obtain ⟨f, hf, e1, e2⟩ := look_mem h1
    rwa [← ent_ext e1 e2]
  · have h1 := look_of_mem hr' hc
    rw [← h c.k c.key] at h1
    obtain ⟨f, hf, e1, e2⟩ := look_mem h1
    rwa [← ent_ext e1 e2]
theorem pos_le (k : List Int) : ∀ R : List Ent, posR k R ≤ R.length
  | [] => Nat.le_refl _
  | e :: R => by have := pos_le k R; unfold posR; split <;> simp <;> omega
theorem pos_lt {k : List Int} : ∀ {R : List Ent} {i : Nat}, i < posR k R → kLt (R[i]!).k k = true
  | [], i, h => by simp [posR] at h
  | e :: R, i, h => by
    unfold posR at h
    split at h
    · rename_i he
      cases i with
      | zero => simpa using he
      | succ i => simpa using pos_lt (R := R) (i := i) (by omega)
    · omega
theorem pos_at {k : List Int} : ∀ {R : List Ent}, posR k R < R.length → kLt (R[posR k R]!).k k = false
  | [], h => by simp [posR] at h
  | e :: R, h => by
    unfold posR at h ⊢
    by_cases he : kLt e.k k = true
    · rw [if_pos he] at h ⊢
      simpa using pos_at (R := R) (by simpa using h)
    · rw [if_neg he]
      simpa using he
/-- So many stand ahead: it is the place. -/
theorem pos_unique {k : List Int} {R : List Ent} {i : Nat} (h1 : ∀ j, j < i → kLt (R[j]!).k k = true) (h2 : i < R.length → kLt (R[i]!).k k = false) (h3 : i ≤ R.length) : posR k R = i := by
  have a := pos_le k R
  rcases Nat.lt_trichotomy (posR k R) i with h | h | h
  · have := h1 _ h
    rw [pos_at (by omega)] at this; cases this
  · exact h
  · have := pos_lt h
    rw [h2 (by omega)] at this; cases this
theorem look_pos {k : List Int} : ∀ {R : List Ent}, Rise R → lookR k R = if posR k R < R.length ∧ (R[posR k R]!).k = k then some (R[posR k R]!).p else none
  | [], _ => by simp [lookR, posR]
  | e :: R, hr => by
    obtain ⟨h1, h2⟩ := List.pairwise_cons.1 hr
    unfold lookR posR
    by_cases he : e.k = k
    · have hf : kLt e.k k = false := by rw [he, kLt_irrefl]
      simp [he, kLt_irrefl]
    · rw [if_neg he]
      by_cases hl : kLt e.k k = true
      · rw [if_pos hl, look_pos h2]
        simp
      · rw [if_neg hl]
        have : lookR k R = none := look_none.2 fun f hf hk => by
          have h3 := h1 f hf
          rw [hk] at h3
          exact hl h3
        rw [this]
        simp [he]
theorem ins_pos (x : Ent) : ∀ R : List Ent, insR x R = R.take (posR x.k R) ++ x :: R.drop (posR x.k R)
  | [] => rfl
  | e :: R => by
    unfold insR posR
    by_cases h : kLt e.k x.k = true
    · rw [if_pos h, if_pos h, ins_pos x R]; rfl
    · rw [if_neg h, if_neg h]; rfl
theorem ins_len (x : Ent) (R : List Ent) : (insR x R).length = R.length + 1 := by
  have := pos_le x.k R
  rw [ins_pos]; simp; omega
theorem mem_ins {x c : Ent} : ∀ {R : List Ent}, c ∈ insR x R ↔ c = x ∨ c ∈ R
  | [] => by simp [insR]
  | e :: R => by
    unfold insR
    split
    · rw [List.mem_cons, mem_ins, List.mem_cons]
      constructor
      · rintro (h | h | h)
        · exact .inr (.inl h)
        · exact .inl h
        · exact .inr (.inr h)
      · rintro (h | h | h)
        · exact .inr (.inl h)
        · exact .inl h
        · exact .inr (.inr h)
    · simp
theorem rise_ins {x : Ent} : ∀ {R : List Ent}, Rise R → lookR x.k R = none → Rise (insR x R)
  | [], _, _ => by simp [insR, Rise]
  | e :: R, hr, hn => by
    obtain ⟨h1, h2⟩ := List.pairwise_cons.1 hr
    have hne := look_none.1 hn
    unfold insR
    by_cases h : kLt e.k x.k = true
    · rw [if_pos h]
      refine List.pairwise_cons.2 ⟨fun c hc => ?_, rise_ins h2 (look_none.2 fun f hf => hne f (by simp [hf]))⟩
      rcases mem_ins.1 hc with rfl | hc
      · exact h
      · exact h1 c hc
    · rw [if_neg h]
      have hx : kLt x.k e.k = true := by
        cases hb : kLt x.k e.k with
        | true => rfl
        | false => exact absurd (kLt_total (by simpa using h) hb) (hne e (by simp))
      refine List.pairwise_cons.2 ⟨fun c hc => ?_, hr⟩
      rcases List.mem_cons.1 hc with rfl | hc
      · exact hx
      · exact kLt_trans hx (h1 c hc)
theorem look_ins {x : Ent} {R : List Ent} (hr : Rise R) (hn : lookR x.k R = none) (k : List Int) : lookR k (insR x R) = if k = x.k then some x.p else lookR k R := by
  have hri := rise_ins hr hn
  by_cases hk : k = x.k
  · rw [if_pos hk, hk]
    exact look_of_mem hri (mem_ins.2 (.inl rfl))
  · rw [if_neg hk]
    cases h : lookR k R with
    | none =>
      refine look_none.2 fun e he hke => ?_
      rcases mem_ins.1 he with rfl | he
      · exact hk hke.symm
      · exact look_none.1 h e he hke
    | some p =>
      obtain ⟨e, he, e1, e2⟩ := look_mem h
      rw [← e1, ← e2]
      exact look_of_mem hri (mem_ins.2 (.inr he))
theorem set_keys (x : Ent) (R : List Ent) : (setR x R).map Ent.k = R.map Ent.k := by
  unfold setR
  rw [List.map_map]
  apply List.map_congr_left
  intro e _
  show (if e.k = x.k then x else e).k = e.k
  split
  · rename_i h; exact h.symm
  · rfl
theorem rise_keys {R : List Ent} : Rise R ↔ (R.map Ent.k).Pairwise fun a b => kLt a b = true := by
  rw [List.pairwise_map]; rfl
theorem rise_set {x : Ent} {R : List Ent} (hr : Rise R) : Rise (setR x R) := by
  rw [rise_keys, set_keys, ← rise_keys]; exact hr
theorem look_set {x : Ent} (k : List Int) : ∀ {R : List Ent}, (lookR x.k R).isSome = true → lookR k (setR x R) = if k = x.k then some x.p else lookR k R := by
  have h0 : ∀ {R : List Ent}, k ≠ x.k → lookR k (setR x R) = lookR k R := fun {R} hk => by
    induction R with
    | nil => rfl
    | cons e R ih =>
      show lookR k ((if e.k = x.k then x else e) :: setR x R) = _
      unfold lookR
      rw [ih]
      by_cases he : e.k = x.k
      · rw [if_pos he, if_neg (fun h => hk h.symm), if_neg (fun h => hk (h.symm.trans he))]
      · rw [if_neg he]
  intro R h
  by_cases hk : k = x.k
  · rw [if_pos hk, hk]
    clear h0
    induction R with
    | nil => simp [lookR] at h
    | cons e R ih =>
      show lookR x.k ((if e.k = x.k then x else e) :: setR x R) = _
      by_cases he : e.k = x.k
      · rw [if_pos he, lookR, if_pos rfl]
      · rw [if_neg he, lookR, if_neg he]
        exact ih (by rwa [lookR, if_neg he] at h)
  · rw [if_neg hk]; exact h0 hk
theorem set_len (x : Ent) (R : List Ent) : (setR x R).length = R.length := by simp [setR]
theorem set_pos {x : Ent} : ∀ {R : List Ent}, Rise R → posR x.k R < R.length → (R[posR x.k R]!).k = x.k → setR x R = R.set (posR x.k R) x
  | [], _, h, _ => by simp at h
  | e :: R, hr, h, hk => by
    obtain ⟨h1, h2⟩ := List.pairwise_cons.1 hr
    show (if e.k = x.k then x else e) :: setR x R = _
    unfold posR at h hk ⊢
    by_cases hl : kLt e.k x.k = true
    · rw [if_pos hl] at h hk ⊢
      rw [if_neg (fun he => by rw [he, kLt_irrefl] at hl; cases hl)]
      rw [set_pos h2 (by simpa using h) (by simpa using hk)]
      rfl
    · rw [if_neg hl] at h hk ⊢
      have he : e.k = x.k := by simpa using hk
      rw [if_pos he]
      have : setR x R = R := by
        unfold setR
        conv => rhs; rw [← List.map_id R]
        apply List.map_congr_left
        intro f hf
        have h3 := h1 f hf
        rw [if_neg (fun hk => by rw [he, ← hk, kLt_irrefl] at h3; cases h3)]
        rfl
      rw [this]; rfl
theorem rise_del {k : List Int} {R : List Ent} (hr : Rise R) : Rise (delR k R) := hr.filter _
theorem look_del (k k' : List Int) : ∀ R : List Ent, lookR k' (delR k R) = if k' = k then none else lookR k' R
  | [] => by simp [delR, lookR]
  | e :: R => by
    have ih := look_del k k' R
    unfold delR at ih ⊢
    by_cases he : e.k = k
    · rw [List.filter_cons_of_neg (by simp [he]), ih, lookR]
      by_cases hk : k' = k
      · rw [if_pos hk, if_pos hk]
      · rw [if_neg hk, if_neg hk, if_neg (fun h => hk (h.symm.trans he))]
    · rw [List.filter_cons_of_pos (by simp [he]), lookR, lookR, ih]
      by_cases hk : e.k = k'
      · rw [if_pos hk, if_pos hk, if_neg (fun h => he (hk.trans h))]
      · rw [if_neg hk, if_neg hk]
theorem del_pos {k : List Int} : ∀ {R : List Ent}, Rise R → posR k R < R.length → (R[posR k R]!).k = k → delR k R = R.take (posR k R) ++ R.drop (posR k R + 1)
  | [], _, h, _ => by simp at h
  | e :: R, hr, h, hk => by
    obtain ⟨h1, h2⟩ := List.pairwise_cons.1 hr
    unfold posR at h hk ⊢
    unfold delR
    by_cases hl : kLt e.k k = true
    · rw [if_pos hl] at h hk ⊢
      rw [List.filter_cons_of_pos (by simp; exact fun he => by rw [he, kLt_irrefl] at hl; cases hl)]
      have := del_pos h2 (by simpa using h) (by simpa using hk)
      unfold delR at this
      rw [this]; rfl
    · rw [if_neg hl] at h hk ⊢
      have he : e.k = k := by simpa using hk
      rw [List.filter_cons_of_neg (by simp [he])]
      rw [List.filter_eq_self.2 fun f hf => by
        have h3 := h1 f hf
        simp only [decide_eq_true_eq]
        exact fun hk => by rw [he, hk, kLt_irrefl] at h3; cases h3]
      rfl
theorem del_len {k : List Int} {R : List Ent} (hr : Rise R) (h : (lookR k R).isSome = true) : (delR k R).length + 1 = R.length := by
  rw [look_pos hr] at h
  split at h
  · rename_i h1
    rw [del_pos hr h1.1 h1.2]
    have := h1.1
    simp; omega
  · cases h
/-- What is done to a row, and what is told of it. -/
def addE (R : List Ent) (k : List Int) (p : Pl) : Int := if mayB p = false then 2 else if (lookR k R).isSome = true then 7 else 0
noncomputable def addR (R : List Ent) (k : List Int) (p : Pl) : List Ent := if mayB p = true ∧ lookR k R = none then insR (mkE k p) R else R
def moveE (R : List Ent) (k : List Int) (x : Int) : Int := match lookR k R with | none => 6 | some _ => if 0 ≤ x ∧ x ≤ 262144 then 0 else 2
noncomputable def moveR (R : List Ent) (k : List Int) (x : Int) : List Ent := match lookR k R with | none => R | some p => if 0 ≤ x ∧ x ≤ 262144 then setR (mkE k { p with a := x }) R else R
def wantE (R : List Ent) (k : List Int) (x : Int) : Int := match lookR k R with | none => 6 | some p => if -p.r ≤ x ∧ x ≤ 2147483647 - p.r then 0 else 2
noncomputable def wantR (R : List Ent) (k : List Int) (x : Int) : List Ent := match lookR k R with | none => R | some p => if -p.r ≤ x ∧ x ≤ 2147483647 - p.r then (if p.r + x = 0 then delR k R else setR (mkE k { p with r := p.r + x }) R) else R
theorem look_may {R : List Ent} {k : List Int} {p : Pl} (h : lookR k R = some p) : mayB p = true := by
  obtain ⟨e, _, _, rfl⟩ := look_mem h
  exact e.may
theorem rise_add {R : List Ent} {k : List Int} {p : Pl} (hr : Rise R) (hk : KeyOk 32 k) : Rise (addR R k p) := by
  unfold addR
  split
  · rename_i h
    exact rise_ins hr (by rw [mkE_k hk h.1]; exact h.2)
  · exact hr
theorem rise_move {R : List Ent} {k : List Int} {x : Int} (hr : Rise R) : Rise (moveR R k x) := by
  unfold moveR
  split
  · exact hr
  · split
    · exact rise_set hr
    · exact hr
theorem rise_want {R : List Ent} {k : List Int} {x : Int} (hr : Rise R) : Rise (wantR R k x) := by
  unfold wantR
  split
  · exact hr
  · split
    · split
      · exact rise_del hr
      · exact rise_set hr
    · exact hr
theorem may_move {p : Pl} {x : Int} (h : mayB p = true) (hx : 0 ≤ x ∧ x ≤ 262144) : mayB { p with a := x } = true := by
  rw [may_true] at h ⊢; exact ⟨hx, h.2⟩
theorem may_want {p : Pl} {x : Int} (h : mayB p = true) (hx : -p.r ≤ x ∧ x ≤ 2147483647 - p.r) : mayB { p with r := p.r + x } = true := by
  rw [may_true] at h ⊢; exact ⟨h.1, h.2.1, h.2.2.1, by dsimp only; omega⟩
theorem add_len (R : List Ent) (k : List Int) (p : Pl) : (addR R k p).length ≤ R.length + 1 := by
  unfold addR; split
  · rw [ins_len]; exact Nat.le_refl _
  · omega
theorem move_len (R : List Ent) (k : List Int) (x : Int) : (moveR R k x).length = R.length := by
  unfold moveR; split
  · rfl
  · split
    · exact set_len _ _
    · rfl
theorem want_len (R : List Ent) (k : List Int) (x : Int) : (wantR R k x).length ≤ R.length := by
  unfold wantR; split
  · exact Nat.le_refl _
  · split
    · split
      · exact List.length_filter_le _ _
      · rw [set_len]; exact Nat.le_refl _
    · exact Nat.le_refl _
end Go.Proofs.Ytnindkpgmiafnaa
