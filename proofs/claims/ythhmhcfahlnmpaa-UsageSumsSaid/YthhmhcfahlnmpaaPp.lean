/- Plain laws on places: which places are fine, and how much of each segment they have. No program in sight. -/
import Derived.Test.YthhmhcfahlnmpaaLE
import Derived.Sort.Statements
namespace Go.Proofs.Ythhmhcfahlnmpaa
open Go.RowKit
structure Pl where
  a : Int
  n : Int
  u : Int
  r : Int
deriving Inhabited
def encP (p : Pl) : List Value := [.int .i64 p.a, .int .i64 p.n, .int .i64 p.u, .int .i64 p.r]
theorem encP_len (p : Pl) : (encP p).length = 4 := rfl
theorem encP_one (p : Pl) : ∀ v ∈ encP p, v.oneCell' = true := by
  intro v hv; simp [encP] at hv; rcases hv with rfl | rfl | rfl | rfl <;> rfl
def okP (g : Geo) (p : Pl) : Bool := (inV g p.a).2 && decide (1 ≤ p.n) && decide (p.n ≤ segV g (inV g p.a).1 + g.G - p.a)
def meet (p q : Pl) : Bool := decide (p.a < q.a + q.n) && decide (q.a < p.a + p.n)
theorem meet_symm (p q : Pl) : meet p q = meet q p := by unfold meet; rw [Bool.and_comm]
def fineB (g : Geo) (L : Nat → Pl) (n : Nat) : Bool := decide ((∀ i, i < n → okP g (L i) = true) ∧ ∀ i, i < n → ∀ m, m < i → meet (L i) (L m) = false)
def usedE (g : Geo) (L : Nat → Pl) (n : Nat) : Int := if rightB g = false then 2 else if fineB g L n = true then 0 else 4
def cntP (g : Geo) (L : Nat → Pl) (k : Nat) : Nat → Int
  | 0 => 0
  | n + 1 => cntP g L k n + if (inV g (L n).a).1 = k then (L n).n else 0
/-- What a fine place is. -/
theorem ok_spec {g : Geo} {p : Pl} (hr : rightB g = true) (h : okP g p = true) : ∃ k : Nat, (inV g p.a) = ((k : Int), true) ∧ (k : Int) < g.S ∧ segs g + k * g.G ≤ p.a ∧ p.a + p.n ≤ segs g + k * g.G + g.G ∧ 1 ≤ p.n ∧ segV g k = segs g + k * g.G := by
  have hf := fine_right hr
  simp only [okP, Bool.and_eq_true, decide_eq_true_eq] at h
  obtain ⟨⟨h1, h2⟩, h3⟩ := h
  by_cases hin : segs g ≤ p.a ∧ p.a < total g
  · have e : inV g p.a = ((p.a - segs g) / g.G, true) := by unfold inV; rw [if_pos ⟨hr, hin⟩]
    have hG : 0 < g.G := by have := hf.g1; have := hf.u1; omega
    have hd := Int.emod_add_mul_ediv (p.a - segs g) g.G
    have hm := Int.emod_nonneg (p.a - segs g) (show g.G ≠ 0 by omega)
    have hl := Int.emod_lt_of_pos (p.a - segs g) hG
    have hk0 : 0 ≤ (p.a - segs g) / g.G := Int.ediv_nonneg (by omega) (by omega)
    have hkS : (p.a - segs g) / g.G < g.S := by
      rw [total_segs] at hin
      exact Int.ediv_lt_of_lt_mul hG (by omega)
    obtain ⟨k, hk⟩ : ∃ k : Nat, (p.a - segs g) / g.G = k := ⟨((p.a - segs g) / g.G).toNat, by omega⟩
    rw [hk] at hd hkS e
    have es : segV g k = segs g + k * g.G := by unfold segV segs; rw [if_pos ⟨hr, by omega, hkS⟩]
    rw [e] at h3
    rw [es] at h3
    rw [Int.mul_comm] at hd
    exact ⟨k, e, hkS, by omega, by omega, h2, es⟩
  · have e : inV g p.a = (0, false) := by unfold inV; rw [if_neg (fun h => hin h.2)]
    rw [e] at h1; simp at h1
theorem segs_pos {g : Geo} (h : rightB g = true) : 2 ≤ segs g ∧ segs g ≤ 262144 := by
  have hf := fine_right h
  have h1 := hf.pages
  have h2 := hf.j1
  have h3 := total_right h
  have h4 := hf.prod
  rw [total_segs] at h3
  have e : segs g = 2 + 2 * g.J + 4 * pagesN g := rfl
  omega
theorem ok_bd {g : Geo} {p : Pl} (hr : rightB g = true) (h : okP g p = true) : 1 ≤ p.n ∧ p.n ≤ g.G ∧ 0 ≤ p.a ∧ p.a + p.n ≤ 262144 := by
  obtain ⟨k, _, hk, h1, h2, h3, _⟩ := ok_spec hr h
  have hb := seg_bd (fine_right hr) (k := k) (by omega) hk
  have hs := segs_pos hr
  have ht := total_right hr
  rw [total_segs] at ht
  exact ⟨h3, by omega, by omega, by omega⟩
theorem cnt_bd {g : Geo} {L : Nat → Pl} (hr : rightB g = true) (k : Nat) : ∀ n, (∀ i, i < n → okP g (L i) = true) → 0 ≤ cntP g L k n ∧ cntP g L k n ≤ 1024 * n
  | 0, _ => by simp [cntP]
  | n + 1, h => by
    have ih := cnt_bd hr k n fun i hi => h i (by omega)
    have hb := ok_bd hr (h n (by omega))
    have := (fine_right hr).g2
    unfold cntP
    split <;> omega
theorem in_true {g : Geo} {a x : Int} (hr : rightB g = true) (h : inV g a = (x, true)) : ∃ kk : Nat, x = kk ∧ (kk : Int) < g.S ∧ 0 ≤ a ∧ a < 262144 ∧ 0 ≤ segV g kk ∧ segV g kk ≤ 262144 := by
  have hf := fine_right hr
  by_cases hin : segs g ≤ a ∧ a < total g
  · have e : inV g a = ((a - segs g) / g.G, true) := by unfold inV; rw [if_pos ⟨hr, hin⟩]
    have hG : 0 < g.G := by have := hf.g1; have := hf.u1; omega
    have hs := segs_pos hr
    have ht := total_right hr
    have hk0 : 0 ≤ (a - segs g) / g.G := Int.ediv_nonneg (by omega) (by omega)
    have hkS : (a - segs g) / g.G < g.S := by
      rw [total_segs] at hin
      exact Int.ediv_lt_of_lt_mul hG (by omega)
    obtain ⟨k, hk⟩ : ∃ k : Nat, (a - segs g) / g.G = k := ⟨((a - segs g) / g.G).toNat, by omega⟩
    rw [hk] at hkS e
    have es : segV g k = segs g + k * g.G := by unfold segV segs; rw [if_pos ⟨hr, by omega, hkS⟩]
    have hb := seg_bd hf (k := k) (by omega) hkS
    have ht2 := ht
    rw [total_segs] at ht2
    rw [e] at h
    injection h with h _
    exact ⟨k, h.symm, hkS, by omega, by omega, by rw [es]; omega, by rw [es]; omega⟩
  · have e : inV g a = (0, false) := by unfold inV; rw [if_neg (fun h => hin h.2)]
    rw [e] at h; injection h with _ h; cases h
/-- The document's way to ask: in one segment. -/
theorem ok_ref {g : Geo} {p : Pl} (hr : rightB g = true) (h1 : 1 ≤ p.n) (_h2 : p.n ≤ g.G) :
    okP g p = ((inV g p.a).2 && (inV g (p.a + p.n - 1)).2 && decide ((inV g p.a).1 = (inV g (p.a + p.n - 1)).1)) := by
  have hf := fine_right hr
  have hG : 0 < g.G := by have := hf.g1; have := hf.u1; omega
  by_cases hin : segs g ≤ p.a ∧ p.a < total g
  · by_cases hok : okP g p = true
    · obtain ⟨k, e, hk, h3, h4, _, _⟩ := ok_spec hr hok
      have e2 := in_here (a := p.a + p.n - 1) hr (by omega : (0 : Int) ≤ k) hk (by omega) (by omega)
      rw [hok, e, e2]; simp
    · have e : inV g p.a = ((p.a - segs g) / g.G, true) := by unfold inV; rw [if_pos ⟨hr, hin⟩]
      rw [Bool.not_eq_true] at hok
      rw [hok, e]
      by_cases hin2 : segs g ≤ p.a + p.n - 1 ∧ p.a + p.n - 1 < total g
      · have e2 : inV g (p.a + p.n - 1) = ((p.a + p.n - 1 - segs g) / g.G, true) := by unfold inV; rw [if_pos ⟨hr, hin2⟩]
        rw [e2]
        have hne : ¬ (p.a - segs g) / g.G = (p.a + p.n - 1 - segs g) / g.G := by
          intro he
          have hd := Int.emod_add_mul_ediv (p.a + p.n - 1 - segs g) g.G
          have hl := Int.emod_lt_of_pos (p.a + p.n - 1 - segs g) hG
          have hk0 : 0 ≤ (p.a - segs g) / g.G := Int.ediv_nonneg (by omega) (by omega)
          have hkS : (p.a - segs g) / g.G < g.S := by
            rw [total_segs] at hin
            exact Int.ediv_lt_of_lt_mul hG (by omega)
          have es : segV g ((p.a - segs g) / g.G) = segs g + ((p.a - segs g) / g.G) * g.G := by unfold segV segs; rw [if_pos ⟨hr, hk0, hkS⟩]
          rw [← he, Int.mul_comm] at hd
          have : okP g p = true := by
            simp only [okP, e, es, Bool.and_eq_true, decide_eq_true_eq]
            exact ⟨⟨trivial, h1⟩, by omega⟩
          rw [this] at hok; cases hok
        simp [hne]
      · have e2 : inV g (p.a + p.n - 1) = (0, false) := by unfold inV; rw [if_neg (fun h => hin2 h.2)]
        rw [e2]; simp
  · have e : inV g p.a = (0, false) := by unfold inV; rw [if_neg (fun h => hin h.2)]
    simp [okP, e]
/-- Places sorted by where they begin: side by side is apart. -/
theorem sorted_apart {d : Array Pl} {n : Nat} (hn : d.size = n) (hs : ∀ i j, i < j → j < n → d[i]!.a ≤ d[j]!.a) (h1 : ∀ i, i < n → 1 ≤ d[i]!.n) :
    (∀ i, i + 1 < n → d[i]!.a + d[i]!.n ≤ d[i + 1]!.a) ↔ d.toList.Pairwise fun p q => meet p q = false := by
  rw [List.pairwise_iff_getElem]
  have hg : ∀ i (h : i < d.toList.length), d.toList[i] = d[i]! := fun i h => by
    simp at h
    simp [h]
  constructor
  · intro h i j hi hj hij
    rw [hg i hi, hg j hj]
    have hi' : i < n := by simpa [hn] using hi
    have hj' : j < n := by simpa [hn] using hj
    have h2 := h i (by omega)
    have h3 : d[i + 1]!.a ≤ d[j]!.a := by
      rcases Nat.lt_or_ge (i + 1) j with h4 | h4
      · exact hs _ _ h4 hj'
      · obtain rfl : j = i + 1 := by omega
        exact Int.le_refl _
    simp only [meet, Bool.and_eq_false_iff, decide_eq_false_iff_not]
    right; omega
  · intro h i hi
    have h2 := h i (i + 1) (by simp [hn]; omega) (by simp [hn]; omega) (by omega)
    rw [hg, hg] at h2
    have h3 := hs i (i + 1) (by omega) hi
    have h4 := h1 i (by omega)
    have h5 := h1 (i + 1) hi
    simp only [meet, Bool.and_eq_false_iff, decide_eq_false_iff_not] at h2
    omega
def rowOf (L : Nat → Pl) (n : Nat) : Array Pl := ((List.range n).map L).toArray
theorem rowOf_size (L : Nat → Pl) (n : Nat) : (rowOf L n).size = n := by simp [rowOf]
theorem rowOf_get (L : Nat → Pl) {n i : Nat} (h : i < n) : (rowOf L n)[i]! = L i := by
  simp [rowOf, h]
theorem apart_iff (L : Nat → Pl) (n : Nat) : ((List.range n).map L).Pairwise (fun p q => meet p q = false) ↔ ∀ i, i < n → ∀ m, m < i → meet (L i) (L m) = false := by
  rw [List.pairwise_iff_getElem]
  constructor
  · intro h i hi m hm
    have := h m i (by simp; omega) (by simpa using hi) hm
    rw [meet_symm]
    simpa using this
  · intro h i j hi hj hij
    have := h j (by simpa using hj) i hij
    rw [meet_symm]
    simpa using this
/-- What the program asks of the sorted row is what the document asks of the row. -/
theorem sorted_fine {g : Geo} {L : Nat → Pl} {n : Nat} {d : Array Pl} (hr : rightB g = true) (hok : ∀ i, i < n → okP g (L i) = true) (hp : Go.Sort.PermIn 0 n (rowOf L n) d)
    (hs : ∀ i j, i < j → j < n → d[i]!.a ≤ d[j]!.a) : (∀ i, i + 1 < n → d[i]!.a + d[i]!.n ≤ d[i + 1]!.a) ↔ fineB g L n = true := by
  have hd : d.size = n := by rw [hp.1, rowOf_size]
  have hperm : d.toList.Perm ((List.range n).map L) := by
    have := hp.2.2
    have e1 : d.extract 0 n = d := by rw [← hd]; simp
    have e2 : (rowOf L n).extract 0 n = rowOf L n := by
      have h := rowOf_size L n
      generalize rowOf L n = r at h
      rw [← h]; simp
    rw [e1, e2] at this
    exact this
  have h1 : ∀ i, i < n → 1 ≤ d[i]!.n ∧ okP g d[i]! = true := fun i hi => by
    have hm : d[i]! ∈ d.toList := by
      rw [getElem!_pos d i (by omega)]; simp
    have := hperm.mem_iff.1 hm
    simp only [List.mem_map, List.mem_range] at this
    obtain ⟨j, hj, e⟩ := this
    rw [← e]
    exact ⟨(ok_bd hr (hok j hj)).1, hok j hj⟩
  rw [sorted_apart hd hs fun i hi => (h1 i hi).1, List.Perm.pairwise_iff (fun {x y} h => by rw [meet_symm]; exact h) hperm, apart_iff]
  simp only [fineB, decide_eq_true_eq]
  exact ⟨fun h => ⟨hok, h⟩, fun h => h.2⟩
end Go.Proofs.Ythhmhcfahlnmpaa
