/- Plain laws on places: which sectors they have, how many of a segment; in another order, with one more. No program in sight. -/
import Derived.Test.YthhmhcfahlnmpaaUb
namespace Go.Proofs.Ythhmhcfahlnmpaa
open Go.RowKit
def covB (L : Nat → Pl) : Nat → Int → Bool
  | 0, _ => false
  | n + 1, x => covB L n x || (decide ((L n).a ≤ x) && decide (x < (L n).a + (L n).n))
def partB (L : Nat → Pl) (i s : Nat) (x : Int) : Bool := covB L i x || (decide ((L i).a ≤ x) && decide (x < (L i).a + s))
theorem part_0 (L : Nat → Pl) (i : Nat) (x : Int) : partB L i 0 x = covB L i x := by
  unfold partB
  have : (decide ((L i).a ≤ x) && decide (x < (L i).a + (0 : Nat))) = false := by
    rw [Bool.and_eq_false_iff]; simp; omega
  rw [this, Bool.or_false]
theorem part_end {L : Nat → Pl} {i s : Nat} (h : (L i).n = s) (x : Int) : partB L i s x = covB L (i + 1) x := by
  unfold partB; rw [covB, h]
theorem part_at (L : Nat → Pl) (i s : Nat) : partB L i s ((L i).a + s) = covB L i ((L i).a + s) := by
  unfold partB
  have : (decide ((L i).a ≤ (L i).a + s) && decide ((L i).a + (s : Int) < (L i).a + s)) = false := by
    rw [Bool.and_eq_false_iff]; simp
  rw [this, Bool.or_false]
theorem part_s (L : Nat → Pl) (i s : Nat) : partB L i (s + 1) ((L i).a + s) = true := by
  unfold partB
  rw [Bool.or_eq_true]; right
  simp; omega
theorem part_o {L : Nat → Pl} {i s : Nat} {x : Int} (h : x ≠ (L i).a + s) : partB L i (s + 1) x = partB L i s x := by
  unfold partB
  have : decide (x < (L i).a + (s + 1 : Nat)) = decide (x < (L i).a + s) := by
    apply decide_eq_decide.2; omega
  rw [this]
theorem cov_true {L : Nat → Pl} {x : Int} : ∀ {n : Nat}, covB L n x = true ↔ ∃ i, i < n ∧ (L i).a ≤ x ∧ x < (L i).a + (L i).n
  | 0 => by simp [covB]
  | n + 1 => by
    rw [covB, Bool.or_eq_true, cov_true, Bool.and_eq_true, decide_eq_true_eq, decide_eq_true_eq]
    constructor
    · rintro (⟨i, h1, h2⟩ | h)
      · exact ⟨i, by omega, h2⟩
      · exact ⟨n, by omega, h⟩
    · rintro ⟨i, h1, h2⟩
      rcases Nat.lt_or_ge i n with h | h
      · exact .inl ⟨i, h, h2⟩
      · obtain rfl : i = n := by omega
        exact .inr h2
theorem meet_true {p q : Pl} : meet p q = true ↔ p.a < q.a + q.n ∧ q.a < p.a + p.n := by simp [meet]
theorem not_fine_meet {g : Geo} {L : Nat → Pl} {n i m : Nat} (hi : i < n) (hm : m < i) (h : meet (L i) (L m) = true) : fineB g L n = false := by
  unfold fineB
  rw [decide_eq_false_iff_not]
  intro hx
  rw [hx.2 i hi m hm] at h; cases h
/-- A sector of it that one ahead has. -/
theorem cov_meet {g : Geo} {L : Nat → Pl} {n i s : Nat} (hi : i < n) (hs : (s : Int) < (L i).n) (h : covB L i ((L i).a + s) = true) : fineB g L n = false := by
  obtain ⟨m, hm, h1, h2⟩ := cov_true.1 h
  exact not_fine_meet hi hm (meet_true.2 ⟨by omega, by omega⟩)
/-- None of its sectors is taken. -/
theorem no_meet {L : Nat → Pl} {i : Nat} (h : ∀ s : Nat, (s : Int) < (L i).n → covB L i ((L i).a + s) = false) (h1 : 1 ≤ (L i).n) (hn : ∀ m, m < i → 1 ≤ (L m).n) : ∀ m, m < i → meet (L i) (L m) = false := fun m hm => by
  rw [Bool.eq_false_iff]
  intro hx
  obtain ⟨a, b⟩ := meet_true.1 hx
  have h2 := hn m hm
  rcases Int.lt_or_le (L i).a (L m).a with h3 | h3
  · have := h ((L m).a - (L i).a).toNat (by omega)
    rw [Bool.eq_false_iff] at this
    exact this (cov_true.2 ⟨m, hm, by omega, by omega⟩)
  · have := h 0 (by omega)
    rw [Bool.eq_false_iff] at this
    exact this (cov_true.2 ⟨m, hm, by simpa using h3, by simpa using a⟩)
/-- All of it lies in the segment in which it begins. -/
theorem ok_all {g : Geo} {p : Pl} (hr : rightB g = true) (h : okP g p = true) {s : Nat} (hs : (s : Int) < p.n) : inV g (p.a + s) = inV g p.a := by
  obtain ⟨k, e, hk, h1, h2, h3, _⟩ := ok_spec hr h
  rw [e]
  exact in_here hr (by omega) hk (by omega) (by omega)
theorem ok_of {g : Geo} {p : Pl} {k : Nat} (hr : rightB g = true) (h1 : 1 ≤ p.n) (h2 : p.n ≤ g.G) (h : ∀ s : Nat, (s : Int) < p.n → inV g (p.a + s) = ((k : Int), true)) : okP g p = true := by
  rw [ok_ref hr h1 h2]
  have a := h 0 (by omega)
  have b := h (p.n - 1).toNat (by omega)
  rw [show p.a + ((0 : Nat) : Int) = p.a by omega] at a
  rw [show p.a + ((p.n - 1).toNat : Int) = p.a + p.n - 1 by omega] at b
  rw [a, b]; simp
/-- Where a sector that is in a segment lies. -/
theorem in_spec {g : Geo} {a : Int} {k : Int} (hr : rightB g = true) (h : inV g a = (k, true)) : segs g + k * g.G ≤ a ∧ a < segs g + k * g.G + g.G := by
  have hf := fine_right hr
  have hG : 0 < g.G := by have := hf.g1; have := hf.u1; omega
  by_cases hin : segs g ≤ a ∧ a < total g
  · have e : inV g a = ((a - segs g) / g.G, true) := by unfold inV; rw [if_pos ⟨hr, hin⟩]
    rw [e] at h
    injection h with h _
    have hd := Int.emod_add_mul_ediv (a - segs g) g.G
    have hm := Int.emod_nonneg (a - segs g) (show g.G ≠ 0 by omega)
    have hl := Int.emod_lt_of_pos (a - segs g) hG
    rw [h, Int.mul_comm] at hd
    omega
  · have e : inV g a = (0, false) := by unfold inV; rw [if_neg (fun h => hin h.2)]
    rw [e] at h; injection h with _ h; cases h
theorem seg_at {g : Geo} {k : Nat} (hr : rightB g = true) (hk : (k : Int) < g.S) : segV g k = segs g + k * g.G := by
  unfold segV segs; rw [if_pos ⟨hr, by omega, hk⟩]
theorem not_ok_n {g : Geo} {p : Pl} (hr : rightB g = true) (h : ¬ (1 ≤ p.n ∧ p.n ≤ g.G)) : okP g p = false := by
  rw [Bool.eq_false_iff]
  intro hx
  have := ok_bd hr hx
  exact h ⟨this.1, this.2.1⟩
def cntB (f : Nat → Bool) : Nat → Nat
  | 0 => 0
  | n + 1 => cntB f n + if f n = true then 1 else 0
theorem cntB_le (f : Nat → Bool) : ∀ n, cntB f n ≤ n
  | 0 => Nat.le_refl _
  | n + 1 => by have := cntB_le f n; unfold cntB; split <;> omega
theorem cntB_or {f h : Nat → Bool} : ∀ {n : Nat}, (∀ s, s < n → ¬ (f s = true ∧ h s = true)) → cntB (fun s => f s || h s) n = cntB f n + cntB h n
  | 0, _ => rfl
  | n + 1, hd => by
    have := hd n (by omega)
    rw [cntB, cntB, cntB, cntB_or fun s hs => hd s (by omega)]
    cases h1 : f n <;> cases h2 : h n <;> simp_all <;> omega
theorem cntB_congr {f h : Nat → Bool} : ∀ {n : Nat}, (∀ s, s < n → f s = h s) → cntB f n = cntB h n
  | 0, _ => rfl
  | n + 1, hd => by rw [cntB, cntB, cntB_congr fun s hs => hd s (by omega), hd n (by omega)]
theorem cntB_int (lo hi b : Int) : ∀ n : Nat, cntB (fun s => decide (lo ≤ b + s) && decide (b + s < hi)) n = (min hi (b + n) - max lo b).toNat
  | 0 => by unfold cntB; omega
  | n + 1 => by
    rw [cntB, cntB_int lo hi b n]
    by_cases h1 : lo ≤ b + n <;> by_cases h2 : b + n < hi <;> simp [h1, h2] <;> omega
theorem fine_s {g : Geo} {L : Nat → Pl} {n : Nat} (h : fineB g L (n + 1) = true) : fineB g L n = true ∧ okP g (L n) = true ∧ ∀ m, m < n → meet (L n) (L m) = false := by
  simp only [fineB, decide_eq_true_eq] at h ⊢
  exact ⟨⟨fun i hi => h.1 i (by omega), fun i hi m hm => h.2 i (by omega) m hm⟩, h.1 n (by omega), h.2 n (by omega)⟩
/-- How many sectors of a segment are taken. -/
theorem cnt_seg {g : Geo} {L : Nat → Pl} (hr : rightB g = true) (k : Nat) (hk : (k : Int) < g.S) : ∀ n, fineB g L n = true → (cntB (fun s => covB L n (segs g + k * g.G + s)) g.G.toNat : Int) = cntP g L k n
  | 0, _ => by
    have : ∀ n, cntB (fun _ => false) n = 0 := fun n => by
      induction n with
      | zero => rfl
      | succ n ih => rw [cntB, ih]; simp
    simp [covB, cntP, this]
  | n + 1, hf => by
    obtain ⟨h1, h2, h3⟩ := fine_s hf
    have ih := cnt_seg hr k hk n h1
    rw [cntP, ← ih]
    show ((cntB (fun s => covB L n (segs g + k * g.G + s) || (decide ((L n).a ≤ segs g + k * g.G + s) && decide (segs g + k * g.G + s < (L n).a + (L n).n))) g.G.toNat : Nat) : Int) = _
    rw [cntB_or (f := fun s => covB L n (segs g + k * g.G + s)) (h := fun s => decide ((L n).a ≤ segs g + k * g.G + s) && decide (segs g + k * g.G + s < (L n).a + (L n).n)) (fun s hs hx => by
      obtain ⟨m, hm, a, b⟩ := cov_true.1 hx.1
      have hb := hx.2
      rw [Bool.and_eq_true, decide_eq_true_eq, decide_eq_true_eq] at hb
      have := h3 m hm
      rw [Bool.eq_false_iff] at this
      exact this (meet_true.2 ⟨by omega, by omega⟩)), cntB_int]
    obtain ⟨q, e, hq, a, b, c, _⟩ := ok_spec hr h2
    have hfr := fine_right hr
    have hG : 0 ≤ g.G := by have := hfr.g1; have := hfr.u1; omega
    rw [e]
    dsimp only
    have em : ∀ a b : Nat, (a : Int) < b → (a : Int) * g.G + g.G ≤ b * g.G := fun a b h => by
      have := Int.mul_le_mul_of_nonneg_right (show (a : Int) + 1 ≤ b by omega) hG
      rw [Int.add_mul, Int.one_mul] at this
      exact this
    by_cases hkq : (q : Int) = k
    · rw [if_pos hkq]
      rw [hkq] at a b
      omega
    · rw [if_neg hkq]
      have : (q : Int) * g.G + g.G ≤ k * g.G ∨ (k : Int) * g.G + g.G ≤ q * g.G := by
        rcases Int.lt_or_gt_of_ne hkq with h | h
        · exact .inl (em _ _ h)
        · exact .inr (em _ _ h)
      omega
theorem cntP_congr {g : Geo} {k : Nat} {L M : Nat → Pl} : ∀ {n : Nat}, (∀ i, i < n → L i = M i) → cntP g L k n = cntP g M k n
  | 0, _ => rfl
  | n + 1, h => by rw [cntP, cntP, cntP_congr fun i hi => h i (by omega), h n (by omega)]
theorem cntP_add (g : Geo) (k : Nat) (L : Nat → Pl) (a : Nat) : ∀ b, cntP g L k (a + b) = cntP g L k a + cntP g (fun i => L (a + i)) k b
  | 0 => by simp [cntP]
  | b + 1 => by
    rw [← Nat.add_assoc, cntP, cntP_add g k L a b, cntP]
    omega
/-- Two rows, one behind the other. -/
def catL (K : Nat) (F G : Nat → Pl) (i : Nat) : Pl := if i < K then F i else G (i - K)
theorem cat_cnt (g : Geo) (k : Nat) (K : Nat) (F G : Nat → Pl) (b : Nat) : cntP g (catL K F G) k (K + b) = cntP g F k K + cntP g G k b := by
  rw [cntP_add, cntP_congr (L := catL K F G) (M := F) fun i hi => by rw [catL, if_pos hi], cntP_congr (L := fun i => catL K F G (K + i)) (M := G) fun i _ => by
    show catL K F G (K + i) = G i
    rw [catL, if_neg (by omega), Nat.add_sub_cancel_left]]
def rotL (L : Nat → Pl) (n t : Nat) : Nat → Pl := catL (n - t) (fun i => L (t + i)) L
theorem rot_cnt {g : Geo} {L : Nat → Pl} {n t : Nat} (k : Nat) (h : t ≤ n) : cntP g (rotL L n t) k n = cntP g L k n := by
  have e : n = (n - t) + t := by omega
  have h1 := cat_cnt g k (n - t) (fun i => L (t + i)) L t
  have h2 := cntP_add g k L t (n - t)
  rw [show n - t + t = n by omega] at h1
  rw [show t + (n - t) = n by omega] at h2
  unfold rotL
  rw [h1, h2]
  omega
theorem fine_spec {g : Geo} {L : Nat → Pl} {n : Nat} : fineB g L n = true ↔ (∀ i, i < n → okP g (L i) = true) ∧ ∀ i m, i < n → m < n → i ≠ m → meet (L i) (L m) = false := by
  simp only [fineB, decide_eq_true_eq]
  constructor
  · rintro ⟨h1, h2⟩
    refine ⟨h1, fun i m hi hm hne => ?_⟩
    rcases Nat.lt_or_gt_of_ne hne with h | h
    · rw [meet_symm]; exact h2 m hm i h
    · exact h2 i hi m h
  · rintro ⟨h1, h2⟩
    exact ⟨h1, fun i hi m hm => h2 i m hi (by omega) (by omega)⟩
theorem rot_fine {g : Geo} {L : Nat → Pl} {n t : Nat} (h : t ≤ n) (hf : fineB g L n = true) : fineB g (rotL L n t) n = true := by
  obtain ⟨h1, h2⟩ := fine_spec.1 hf
  have e : ∀ i, i < n → ∃ j, j < n ∧ rotL L n t i = L j ∧ (i < n - t ∧ j = t + i ∨ ¬ i < n - t ∧ j = i - (n - t)) := fun i hi => by
    unfold rotL catL
    by_cases hlt : i < n - t
    · rw [if_pos hlt]; exact ⟨t + i, by omega, rfl, .inl ⟨hlt, rfl⟩⟩
    · rw [if_neg hlt]; exact ⟨i - (n - t), by omega, rfl, .inr ⟨hlt, rfl⟩⟩
  refine fine_spec.2 ⟨fun i hi => ?_, fun i m hi hm hne => ?_⟩
  · obtain ⟨j, hj, e1, _⟩ := e i hi
    rw [e1]; exact h1 j hj
  · obtain ⟨j, hj, e1, c1⟩ := e i hi
    obtain ⟨l, hl, e2, c2⟩ := e m hm
    rw [e1, e2]; exact h2 j l hj hl (by omega)
theorem more_fine {g : Geo} {L : Nat → Pl} {n j : Nat} {p : Pl} (hj : j < n) (h : meet p (L j) = true) : fineB g (catL n L fun _ => p) (n + 1) = false := by
  refine not_fine_meet (i := n) (m := j) (by omega) hj ?_
  rw [catL, if_neg (by omega), catL, if_pos hj]
  exact h
theorem last_meet {p : Pl} (h : 1 ≤ p.n) : meet ⟨p.a + p.n - 1, 1, p.u, p.r⟩ p = true := meet_true.2 ⟨by dsimp only; omega, by dsimp only; omega⟩
def boolRow (f : Nat → Bool) (N : Nat) : List Value := (List.range N).map fun j => Value.bool (f j)
theorem boolRow_at {f : Nat → Bool} {N k : Nat} (hk : k < N) : (boolRow f N)[k]? = some (.bool (f k)) := by
  rw [boolRow, List.getElem?_map, List.getElem?_range hk]; rfl
theorem boolRow_set {f h : Nat → Bool} {N k : Nat} (h1 : h k = true) (ho : ∀ j, j < N → j ≠ k → h j = f j) : (boolRow f N).set k (.bool true) = boolRow h N := by
  apply List.ext_getElem?
  intro i
  rw [List.getElem?_set, boolRow, boolRow]
  by_cases e : k = i
  · subst e
    by_cases hk : k < N
    · simp [hk, h1]
    · simp [hk]
  · rw [if_neg e]
    by_cases hi : i < N
    · rw [List.getElem?_map, List.getElem?_map, List.getElem?_range hi]
      simp only [Option.map_some]
      rw [ho i hi fun e2 => e e2.symm]
    · rw [List.getElem?_eq_none (by simpa using hi), List.getElem?_eq_none (by simpa using hi)]
theorem boolRow_congr {f h : Nat → Bool} {N : Nat} (e : ∀ j, j < N → f j = h j) : boolRow f N = boolRow h N :=
  List.map_congr_left fun j hj => by rw [e j (List.mem_range.1 hj)]
theorem boolRow_0 (N : Nat) : (madeCells (Value.bool false).cells (N * 1)).toList = boolRow (fun _ => false) N := by
  rw [Nat.mul_one]
  refine (toList_madeCells_one _ _).trans ?_
  apply List.ext_getElem?
  intro i
  rw [boolRow, List.getElem?_map, List.getElem?_replicate]
  by_cases h : i < N
  · rw [List.getElem?_range h, if_pos h]; rfl
  · rw [List.getElem?_eq_none (by simpa using h), if_neg h]; rfl
end Go.Proofs.Ythhmhcfahlnmpaa
