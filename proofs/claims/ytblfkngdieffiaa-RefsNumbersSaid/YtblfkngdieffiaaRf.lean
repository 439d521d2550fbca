/- Plain laws on counts by keys: sums, rows that rise. No program in sight. -/
import Derived.Test.YtblfkngdieffiaaMk
import Derived.Sort.Statements
import Derived.Lib.Bytealg
import Derived.Lib.Bytes
namespace Go.Proofs.Ytblfkngdieffiaa
open Go.RowKit
structure Ct where
  k : List Int
  r : Int
/-- The order of keys. -/
def cmpL : List Int → List Int → Int
  | [], [] => 0
  | [], _ :: _ => -1
  | _ :: _, [] => 1
  | a :: as, b :: bs => if a < b then -1 else if b < a then 1 else cmpL as bs
theorem cmpL_self : ∀ a, cmpL a a = 0
  | [] => rfl
  | a :: as => by simp [cmpL, cmpL_self as]
theorem cmpL_cases : ∀ a b, cmpL a b = -1 ∨ cmpL a b = 0 ∨ cmpL a b = 1
  | [], [] => .inr (.inl rfl)
  | [], _ :: _ => .inl rfl
  | _ :: _, [] => .inr (.inr rfl)
  | a :: as, b :: bs => by
    unfold cmpL
    split
    · exact .inl rfl
    · split
      · exact .inr (.inr rfl)
      · exact cmpL_cases as bs
theorem cmpL_anti : ∀ a b, cmpL b a = - cmpL a b
  | [], [] => rfl
  | [], _ :: _ => rfl
  | _ :: _, [] => rfl
  | a :: as, b :: bs => by
    unfold cmpL
    by_cases h1 : a < b
    · rw [if_neg (by omega), if_pos h1, if_pos h1]; rfl
    · by_cases h2 : b < a
      · rw [if_pos h2, if_neg h1, if_pos h2]
      · rw [if_neg h2, if_neg h1, if_neg h1, if_neg h2]; exact cmpL_anti as bs
theorem cmpL_eq : ∀ {a b}, cmpL a b = 0 → a = b
  | [], [], _ => rfl
  | [], _ :: _, h => by simp [cmpL] at h
  | _ :: _, [], h => by simp [cmpL] at h
  | a :: as, b :: bs, h => by
    unfold cmpL at h
    by_cases h1 : a < b
    · rw [if_pos h1] at h; omega
    · by_cases h2 : b < a
      · rw [if_neg h1, if_pos h2] at h; omega
      · rw [if_neg h1, if_neg h2] at h
        rw [show a = b by omega, cmpL_eq h]
theorem cmpL_trans : ∀ {a b c}, cmpL a b = -1 → cmpL b c = -1 → cmpL a c = -1
  | [], [], _, h, _ => by simp [cmpL] at h
  | [], _ :: _, [], _, h => by simp [cmpL] at h
  | [], _ :: _, _ :: _, _, _ => rfl
  | _ :: _, [], _, h, _ => by simp [cmpL] at h
  | _ :: _, _ :: _, [], _, h => by simp [cmpL] at h
  | a :: as, b :: bs, c :: cs, h1, h2 => by
    unfold cmpL at h1 h2 ⊢
    by_cases e1 : a < b
    · by_cases e2 : b < c
      · rw [if_pos (by omega)]
      · by_cases e3 : c < b
        · rw [if_neg e2, if_pos e3] at h2; omega
        · rw [if_pos (by omega)]
    · by_cases e2 : b < a
      · rw [if_neg e1, if_pos e2] at h1; omega
      · rw [if_neg e1, if_neg e2] at h1
        by_cases e3 : b < c
        · rw [if_pos (by omega)]
        · by_cases e4 : c < b
          · rw [if_neg e3, if_pos e4] at h2; omega
          · rw [if_neg e3, if_neg e4] at h2
            rw [if_neg (by omega), if_neg (by omega)]
            exact cmpL_trans h1 h2
def kLt (a b : List Int) : Bool := decide (cmpL a b < 0)
theorem kLt_iff {a b : List Int} : kLt a b = true ↔ cmpL a b = -1 := by
  have := cmpL_cases a b
  unfold kLt
  rw [decide_eq_true_eq]
  omega
theorem kLt_irrefl (a : List Int) : kLt a a = false := by unfold kLt; rw [cmpL_self]; rfl
theorem kLt_trans {a b c : List Int} (h1 : kLt a b = true) (h2 : kLt b c = true) : kLt a c = true := by
  rw [kLt_iff] at *; exact cmpL_trans h1 h2
theorem kLt_asymm {a b : List Int} (h : kLt a b = true) : kLt b a = false := by
  have h1 := cmpL_anti a b
  rw [kLt_iff] at h
  unfold kLt
  rw [decide_eq_false_iff_not]
  omega
theorem kLt_total {a b : List Int} (h1 : kLt a b = false) (h2 : kLt b a = false) : a = b := by
  have h3 := cmpL_anti a b
  have h4 := cmpL_cases a b
  unfold kLt at h1 h2
  rw [decide_eq_false_iff_not] at h1 h2
  exact cmpL_eq (by omega)
theorem kLt_ntrans {a b c : List Int} (h1 : kLt a b = false) (h2 : kLt b c = false) : kLt a c = false := by
  cases h : kLt a c with
  | false => rfl
  | true =>
    cases h3 : kLt b a with
    | true =>
      rw [kLt_trans h3 h] at h2; cases h2
    | false =>
      have := kLt_total h1 h3
      subst this
      rw [h] at h2; cases h2
theorem cmpL_bytes : ∀ (xs ys : List Int), (∀ v ∈ xs, 0 ≤ v ∧ v < 256) → (∀ v ∈ ys, 0 ≤ v ∧ v < 256) → Lib.compareBytes (Lib.bytesOf xs) (Lib.bytesOf ys) = cmpL xs ys
  | [], [], _, _ => rfl
  | [], _ :: _, _, _ => rfl
  | _ :: _, [], _, _ => rfl
  | x :: xs, y :: ys, hx, hy => by
    have ih := cmpL_bytes xs ys (fun v hv => hx v (by simp [hv])) (fun v hv => hy v (by simp [hv]))
    have h1 := hx x (by simp)
    have h2 := hy y (by simp)
    have e : ∀ a b : Int, (0 ≤ a ∧ a < 256) → (0 ≤ b ∧ b < 256) → (UInt8.ofNat a.toNat < UInt8.ofNat b.toNat ↔ a < b) := fun a b ha hb => by
      rw [UInt8.lt_iff_toNat_lt]
      simp only [UInt8.toNat_ofNat']
      rw [Nat.mod_eq_of_lt (by omega), Nat.mod_eq_of_lt (by omega)]
      omega
    show (if UInt8.ofNat x.toNat < UInt8.ofNat y.toNat then (-1 : Int) else if UInt8.ofNat y.toNat < UInt8.ofNat x.toNat then 1 else Lib.compareBytes (Lib.bytesOf xs) (Lib.bytesOf ys)) = _
    rw [ih, show cmpL (x :: xs) (y :: ys) = if x < y then -1 else if y < x then 1 else cmpL xs ys from rfl]
    by_cases h3 : x < y
    · rw [if_pos ((e x y h1 h2).2 h3), if_pos h3]
    · rw [if_neg (fun h => h3 ((e x y h1 h2).1 h)), if_neg h3]
      by_cases h4 : y < x
      · rw [if_pos ((e y x h2 h1).2 h4), if_pos h4]
      · rw [if_neg (fun h => h4 ((e y x h2 h1).1 h)), if_neg h4]
/-- The sum of a key. -/
def sumT : List Ct → List Int → Int
  | [], _ => 0
  | c :: cs, k => (if c.k = k then c.r else 0) + sumT cs k
theorem sumT_append (a b : List Ct) (k : List Int) : sumT (a ++ b) k = sumT a k + sumT b k := by
  induction a with
  | nil => simp [sumT]
  | cons c a ih => rw [List.cons_append, sumT, sumT, ih]; omega
def hasK (cs : List Ct) (k : List Int) : Bool := cs.any fun c => decide (c.k = k)
theorem hasK_append (a b : List Ct) (k : List Int) : hasK (a ++ b) k = (hasK a k || hasK b k) := by simp [hasK]
theorem sumT_none {cs : List Ct} {k : List Int} (h : hasK cs k = false) : sumT cs k = 0 := by
  induction cs with
  | nil => rfl
  | cons c cs ih =>
    simp only [hasK, List.any_cons, Bool.or_eq_false_iff, decide_eq_false_iff_not] at h
    rw [sumT, if_neg h.1, ih h.2]; rfl
theorem wrap_wrap (a b : Int) : wrap64 (wrap64 a + b) = wrap64 (a + b) := by unfold wrap64; omega
theorem wrap_wrap' (a b : Int) : wrap64 (a + wrap64 b) = wrap64 (a + b) := by unfold wrap64; omega
def Rises (R : List Ct) : Prop := R.Pairwise fun a b => kLt a.k b.k = true
theorem rises_ext : ∀ {R R' : List Ct}, Rises R → Rises R' → (∀ c, c ∈ R ↔ c ∈ R') → R = R'
  | [], [], _, _, _ => rfl
  | [], b :: R', _, _, h => by have := (h b).2 (by simp); simp at this
  | a :: R, [], _, _, h => by have := (h a).1 (by simp); simp at this
  | a :: R, b :: R', h1, h2, h => by
    have h1' := List.pairwise_cons.1 h1
    have h2' := List.pairwise_cons.1 h2
    have hab : a = b := by
      rcases List.mem_cons.1 ((h a).1 (by simp)) with e | e
      · exact e
      · rcases List.mem_cons.1 ((h b).2 (by simp)) with e2 | e2
        · exact e2.symm
        · have h3 := h2'.1 a e
          have h4 := kLt_asymm (h1'.1 b e2)
          rw [h3] at h4; cases h4
    subst hab
    rw [rises_ext h1'.2 h2'.2 fun c => ?_]
    constructor
    · intro hc
      rcases List.mem_cons.1 ((h c).1 (by simp [hc])) with e | e
      · have := h1'.1 c hc
        rw [e, kLt_irrefl] at this; cases this
      · exact e
    · intro hc
      rcases List.mem_cons.1 ((h c).2 (by simp [hc])) with e | e
      · have := h2'.1 c hc
        rw [e, kLt_irrefl] at this; cases this
      · exact e
/-- R is the row of the sums that are not 0. -/
structure IsRow (cs R : List Ct) : Prop where
  rises : Rises R
  keys : ∀ c ∈ R, KeyOk 32 c.k
  has : ∀ k x, KeyOk 32 k → (⟨k, x⟩ ∈ R ↔ x = wrap64 (sumT cs k) ∧ x ≠ 0)
theorem IsRow.unique {cs cs' R R' : List Ct} (h : IsRow cs R) (h' : IsRow cs' R') (e : ∀ k, KeyOk 32 k → wrap64 (sumT cs k) = wrap64 (sumT cs' k)) : R = R' := by
  refine rises_ext h.rises h'.rises fun c => ?_
  constructor
  · intro hc
    have hk := h.keys c hc
    exact (h'.has c.k c.r hk).2 (by rw [← e c.k hk]; exact (h.has c.k c.r hk).1 hc)
  · intro hc
    have hk := h'.keys c hc
    exact (h.has c.k c.r hk).2 (by rw [e c.k hk]; exact (h'.has c.k c.r hk).1 hc)
/-- The document's row: a key's sum grows. -/
def addC : List Ct → List Int → Int → List Ct
  | [], k, n => [⟨k, n⟩]
  | c :: l, k, n => if kLt c.k k = true then c :: addC l k n else if c.k = k then ⟨k, wrap64 (c.r + n)⟩ :: l else ⟨k, n⟩ :: c :: l
/-- A row while it is made: of each key that came, its sum. -/
structure Made (cs R : List Ct) : Prop where
  rises : Rises R
  keys : ∀ c ∈ R, KeyOk 32 c.k
  has : ∀ k x, KeyOk 32 k → (⟨k, x⟩ ∈ R ↔ x = wrap64 (sumT cs k) ∧ hasK cs k = true)
theorem made_nil : Made [] [] := ⟨List.Pairwise.nil, fun c h => by simp at h, fun k x _ => by simp [hasK]⟩
theorem addC_mem : ∀ {l : List Ct} {k : List Int} {n : Int} {c : Ct}, c ∈ addC l k n → c.k = k ∨ c ∈ l
  | [], k, n, c, h => by simp [addC] at h; left; rw [h]
  | d :: l, k, n, c, h => by
    unfold addC at h
    split at h
    · rcases List.mem_cons.1 h with e | e
      · right; rw [e]; simp
      · rcases addC_mem e with e | e
        · exact .inl e
        · right; simp [e]
    · split at h
      · rcases List.mem_cons.1 h with e | e
        · left; rw [e]
        · right; simp [e]
      · rcases List.mem_cons.1 h with e | e
        · left; rw [e]
        · exact .inr e
theorem addC_rises : ∀ {l : List Ct} {k : List Int} {n : Int}, Rises l → Rises (addC l k n)
  | [], k, n, _ => by simp [addC, Rises]
  | d :: l, k, n, h => by
    have h' := List.pairwise_cons.1 h
    unfold addC
    split
    · rename_i hlt
      refine List.pairwise_cons.2 ⟨fun c hc => ?_, addC_rises h'.2⟩
      rcases addC_mem hc with e | e
      · rw [e]; exact hlt
      · exact h'.1 c e
    · rename_i hnlt
      split
      · rename_i he
        exact List.pairwise_cons.2 ⟨fun c hc => by rw [← he]; exact h'.1 c hc, h'.2⟩
      · rename_i hne
        have hk : kLt k d.k = true := by
          cases hx : kLt k d.k with
          | true => rfl
          | false => exact absurd (kLt_total (by simpa using hnlt) hx) hne
        refine List.pairwise_cons.2 ⟨fun c hc => ?_, h⟩
        rcases List.mem_cons.1 hc with e | e
        · rw [e]; exact hk
        · exact kLt_trans hk (h'.1 c e)
theorem addC_has : ∀ {l : List Ct} {k : List Int} {n : Int}, Rises l → ∀ k' x, ⟨k', x⟩ ∈ addC l k n ↔ (k' ≠ k ∧ ⟨k', x⟩ ∈ l) ∨ (k' = k ∧ ((∃ y, ⟨k, y⟩ ∈ l ∧ x = wrap64 (y + n)) ∨ ((∀ y, ⟨k, y⟩ ∉ l) ∧ x = n)))
  | [], k, n, _, k', x => by simp [addC]
  | d :: l, k, n, h, k', x => by
    have h' := List.pairwise_cons.1 h
    unfold addC
    split
    · rename_i hlt
      have hne : d.k ≠ k := fun e => by rw [e, kLt_irrefl] at hlt; cases hlt
      rw [List.mem_cons, addC_has h'.2 k' x]
      have hd : ∀ y, (⟨k, y⟩ : Ct) ∈ d :: l ↔ ⟨k, y⟩ ∈ l := fun y => by
        rw [List.mem_cons]
        exact ⟨fun e => e.resolve_left fun e => hne (by rw [← e]), .inr⟩
      simp only [hd]
      constructor
      · rintro (e | ⟨e1, e2⟩ | e)
        · left; exact ⟨fun e3 => hne (by rw [← e]; exact e3), by rw [e]; simp⟩
        · left; exact ⟨e1, by simp [e2]⟩
        · right; exact e
      · rintro (⟨e1, e2⟩ | e)
        · rcases List.mem_cons.1 e2 with e2 | e2
          · exact .inl e2
          · exact .inr (.inl ⟨e1, e2⟩)
        · exact .inr (.inr e)
    · rename_i hnlt
      split
      · rename_i he
        have hu : ∀ y, (⟨k, y⟩ : Ct) ∈ d :: l ↔ y = d.r := fun y => by
          rw [List.mem_cons]
          constructor
          · rintro (e | e)
            · rw [← e]
            · have := h'.1 _ e
              simp only [he] at this
              rw [kLt_irrefl] at this; cases this
          · intro e; left; rw [e, ← he]
        have hl : ∀ y, (⟨k, y⟩ : Ct) ∉ l := fun y e => by
          have := h'.1 _ e
          simp only [he] at this
          rw [kLt_irrefl] at this; cases this
        rw [List.mem_cons]
        simp only [hu]
        constructor
        · rintro (e | e)
          · injection e with e1 e2
            right; exact ⟨e1, .inl ⟨d.r, rfl, e2⟩⟩
          · left
            exact ⟨fun e1 => hl x (e1 ▸ e), by simp [e]⟩
        · rintro (⟨e1, e2⟩ | ⟨e1, ⟨y, rfl, e3⟩ | ⟨e2, e3⟩⟩)
          · rcases List.mem_cons.1 e2 with e2 | e2
            · exact absurd (by rw [← e2] at he; exact he) e1
            · exact .inr e2
          · left; rw [e1, e3]
          · exact absurd rfl (e2 d.r)
      · rename_i hne
        have hk : kLt k d.k = true := by
          cases hx : kLt k d.k with
          | true => rfl
          | false => exact absurd (kLt_total (by simpa using hnlt) hx) hne
        have hl : ∀ y, (⟨k, y⟩ : Ct) ∉ d :: l := fun y e => by
          rcases List.mem_cons.1 e with e | e
          · exact hne (by rw [← e])
          · have h3 := kLt_trans hk (h'.1 _ e)
            simp only [kLt_irrefl] at h3; cases h3
        rw [List.mem_cons]
        constructor
        · rintro (e | e)
          · injection e with e1 e2
            right; exact ⟨e1, .inr ⟨hl, e2⟩⟩
          · left
            exact ⟨fun e1 => hl x (e1 ▸ e), e⟩
        · rintro (⟨e1, e2⟩ | ⟨e1, ⟨y, e2, _⟩ | ⟨_, e3⟩⟩)
          · exact .inr e2
          · exact absurd e2 (hl y)
          · left; rw [e1, e3]
theorem Made.add {cs R : List Ct} (h : Made cs R) {k : List Int} (hk : KeyOk 32 k) {n : Int} (hn : wrap64 n = n) : Made (cs ++ [⟨k, n⟩]) (addC R k n) := by
  refine ⟨addC_rises h.rises, fun c hc => ?_, fun k' x hk' => ?_⟩
  · rcases addC_mem hc with e | e
    · rw [e]; exact hk
    · exact h.keys c e
  · rw [addC_has h.rises, sumT_append, hasK_append]
    have e1 : sumT [⟨k, n⟩] k' = if k = k' then n else 0 := by simp [sumT]
    have e2 : hasK [⟨k, n⟩] k' = decide (k = k') := by simp [hasK]
    rw [e1, e2]
    by_cases e : k' = k
    · subst e
      rw [if_pos rfl]
      simp only [decide_true, Bool.or_true, and_true, ne_eq, not_true_eq_false, false_and, true_and, false_or]
      constructor
      · rintro (⟨y, hy, rfl⟩ | ⟨hno, rfl⟩)
        · obtain ⟨hy, _⟩ := (h.has k' y hk').1 hy
          rw [hy, wrap_wrap]
        · have : hasK cs k' = false := by
            cases hx : hasK cs k' with
            | false => rfl
            | true => exact absurd ((h.has k' _ hk').2 ⟨rfl, hx⟩) (hno _)
          rw [sumT_none this, Int.zero_add, hn]
      · intro hx
        cases hc : hasK cs k' with
        | true => exact .inl ⟨wrap64 (sumT cs k'), (h.has k' _ hk').2 ⟨rfl, hc⟩, by rw [wrap_wrap, hx]⟩
        | false =>
          refine .inr ⟨fun y hy => ?_, by rw [hx, sumT_none hc, Int.zero_add, hn]⟩
          have := ((h.has k' y hk').1 hy).2
          rw [hc] at this; cases this
    · rw [if_neg (fun h => e h.symm), decide_eq_false (fun h => e h.symm), Int.add_zero, Bool.or_false]
      simp only [ne_eq, e, not_false_eq_true, true_and, false_and, or_false]
      exact h.has k' x hk'
/-- A row that was made, without what is 0. -/
theorem Made.row {cs R : List Ct} (h : Made cs R) : IsRow cs (R.filter fun c => decide (c.r ≠ 0)) := by
  refine ⟨h.rises.filter _, fun c hc => h.keys c (List.mem_filter.1 hc).1, fun k x hk => ?_⟩
  rw [List.mem_filter, h.has k x hk]
  simp only [ne_eq, decide_eq_true_eq]
  constructor
  · rintro ⟨⟨h1, _⟩, h2⟩; exact ⟨h1, h2⟩
  · rintro ⟨h1, h2⟩
    refine ⟨⟨h1, ?_⟩, h2⟩
    cases hx : hasK cs k with
    | true => rfl
    | false => rw [sumT_none hx] at h1; exact absurd (h1.trans (by unfold wrap64; rfl)) h2
/-- A permutation of the entries that are not 0, sorted by keys, is the row. -/
theorem sorted_row_is {cs D : List Ct} (hk : ∀ c ∈ D, KeyOk 32 c.k) (hd : ∀ i j (hi : i < D.length) (hj : j < D.length), i < j → kLt D[j].k D[i].k = false) (hn : (D.map Ct.k).Nodup)
    (hm : ∀ k x, KeyOk 32 k → (⟨k, x⟩ ∈ D ↔ x = wrap64 (sumT cs k) ∧ x ≠ 0)) : IsRow cs D := by
  refine ⟨?_, hk, hm⟩
  unfold Rises
  rw [List.pairwise_iff_getElem]
  intro i j hi hj hij
  cases h : kLt D[i].k D[j].k with
  | true => rfl
  | false =>
    have e := kLt_total h (hd i j hi hj hij)
    have h3 := (List.pairwise_iff_getElem.1 hn) i j (by simpa using hi) (by simpa using hj) hij
    simp [e] at h3
end Go.Proofs.Ytblfkngdieffiaa
