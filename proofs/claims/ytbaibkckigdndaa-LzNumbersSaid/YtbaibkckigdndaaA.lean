/- What pieces say, and how bytes become pieces (layer 5), in plain numbers. -/
namespace Go.Proofs.Ytbaibkckigdndaa
/-- A piece: a byte, or a match. -/
structure Pc where
  byte : Int
  len : Int
  dist : Int
/-- May a piece be a match, behind n bytes? -/
def okM (p : Pc) (n : Nat) : Bool := decide (p.byte = 0) && (decide (3 ≤ p.len) && (decide (p.len ≤ 258) && (decide (1 ≤ p.dist) && (decide (p.dist ≤ 32768) && decide (p.dist ≤ n)))))
/-- The last bytes again. -/
def cpy (out : List Int) (d : Nat) : Nat → List Int
  | 0 => out
  | k + 1 => cpy out d k ++ [(cpy out d k).getD ((cpy out d k).length - d) 0]
theorem cpy_len (out : List Int) (d : Nat) : ∀ k, (cpy out d k).length = out.length + k
  | 0 => rfl
  | k + 1 => by rw [cpy, List.length_append, cpy_len out d k]; simp; omega
/-- What one piece more says. -/
def exp1 (out : List Int) (p : Pc) : Option (List Int) :=
  if p.len = 0 ∧ p.dist = 0 then (if 65536 < out.length + 1 then none else some (out ++ [p.byte]))
  else if okM p out.length then (if 65536 < out.length + p.len.toNat then none else some (cpy out p.dist.toNat p.len.toNat)) else none
/-- What the first k pieces say. -/
def expP (P : Nat → Pc) : Nat → Option (List Int)
  | 0 => some []
  | k + 1 => (expP P k).bind fun out => exp1 out (P k)
theorem expP_none {P : Nat → Pc} {k : Nat} (h : expP P k = none) : ∀ n, k ≤ n → expP P n = none
  | 0, hn => by obtain rfl : k = 0 := by omega
                exact h
  | n + 1, hn => by
    by_cases e : k = n + 1
    · rw [← e]; exact h
    · rw [expP, expP_none h n (by omega)]; rfl
theorem exp1_len {out o : List Int} {p : Pc} (h : exp1 out p = some o) : o.length ≤ 65536 ∧ out.length ≤ o.length := by
  unfold exp1 at h
  split at h
  · split at h
    · cases h
    · injection h with h; subst h; simp; omega
  · split at h
    · split at h
      · cases h
      · injection h with h; subst h; rw [cpy_len]; omega
    · cases h
theorem expP_len {P : Nat → Pc} : ∀ {k : Nat} {out : List Int}, expP P k = some out → out.length ≤ 65536
  | 0, out, h => by injection h with h; subst h; simp
  | k + 1, out, h => by
    rw [expP] at h
    cases e : expP P k with
    | none => rw [e] at h; cases h
    | some o => rw [e] at h; exact (exp1_len h).1
theorem exp_congr {P Q : Nat → Pc} : ∀ {k : Nat}, (∀ i, i < k → P i = Q i) → expP P k = expP Q k
  | 0, _ => rfl
  | k + 1, h => by rw [expP, expP, exp_congr (k := k) fun i hi => h i (by omega), h k (by omega)]
/-- Where the three bytes stood last, ahead of a place: -1, if nowhere. -/
def lastF (b : Nat → Int) (n : Nat) (x y z : Int) : Nat → Int
  | 0 => -1
  | p + 1 => if p + 3 ≤ n ∧ b p = x ∧ b (p + 1) = y ∧ b (p + 2) = z then (p : Int) else lastF b n x y z p
def prevF (b : Nat → Int) (n q : Nat) : Int := lastF b n (b q) (b (q + 1)) (b (q + 2)) q
theorem lastF_bd {b : Nat → Int} {n : Nat} {x y z : Int} : ∀ p, lastF b n x y z p = -1 ∨ ∃ q : Nat, lastF b n x y z p = q ∧ q < p ∧ q + 3 ≤ n ∧ b q = x ∧ b (q + 1) = y ∧ b (q + 2) = z
  | 0 => .inl rfl
  | p + 1 => by
    unfold lastF
    by_cases h : p + 3 ≤ n ∧ b p = x ∧ b (p + 1) = y ∧ b (p + 2) = z
    · rw [if_pos h]
      exact .inr ⟨p, rfl, Nat.lt_succ_self p, h.1, h.2.1, h.2.2.1, h.2.2.2⟩
    · rw [if_neg h]
      rcases lastF_bd p with e | ⟨q, e, hq, r⟩
      · exact .inl e
      · exact .inr ⟨q, e, Nat.lt_succ_of_lt hq, r⟩
/-- How long what stands at i stands at j, from k on. -/
def lenG (b : Nat → Int) (n i j : Nat) : Nat → Nat → Nat
  | 0, k => k
  | f + 1, k => if j + k < n ∧ b (i + k) = b (j + k) then lenG b n i j f (k + 1) else k
def lenF (b : Nat → Int) (n i j : Nat) : Nat := lenG b n i j 258 0
theorem lenG_bd {b : Nat → Int} {n i j : Nat} : ∀ (f k : Nat), k ≤ lenG b n i j f k ∧ lenG b n i j f k ≤ k + f ∧ (j + k ≤ n → j + lenG b n i j f k ≤ n) ∧ ((∀ t, t < k → b (i + t) = b (j + t)) → ∀ t, t < lenG b n i j f k → b (i + t) = b (j + t))
  | 0, k => ⟨Nat.le_refl _, Nat.le_refl _, id, id⟩
  | f + 1, k => by
    unfold lenG
    by_cases h : j + k < n ∧ b (i + k) = b (j + k)
    · rw [if_pos h]
      obtain ⟨h1, h2, h3, h4⟩ := lenG_bd (b := b) (n := n) (i := i) (j := j) f (k + 1)
      refine ⟨by omega, by omega, fun _ => h3 (by omega), fun hb => h4 fun t ht => ?_⟩
      by_cases e : t = k
      · subst e; exact h.2
      · exact hb t (by omega)
    · rw [if_neg h]
      exact ⟨Nat.le_refl _, by omega, id, id⟩
theorem lenG_ge {b : Nat → Int} {n i j : Nat} : ∀ (f k m : Nat), m ≤ f → (∀ t, k ≤ t → t < k + m → j + t < n ∧ b (i + t) = b (j + t)) → k + m ≤ lenG b n i j f k
  | f, k, 0, _, _ => by have := (lenG_bd (b := b) (n := n) (i := i) (j := j) f k).1; omega
  | 0, k, m + 1, h, _ => by omega
  | f + 1, k, m + 1, h, hb => by
    unfold lenG
    rw [if_pos (hb k (Nat.le_refl _) (by omega))]
    have := lenG_ge f (k + 1) m (by omega) fun t h1 h2 => hb t (by omega) (by omega)
    omega
theorem lenF_bd (b : Nat → Int) (n i j : Nat) (hj : j ≤ n) : lenF b n i j ≤ 258 ∧ j + lenF b n i j ≤ n ∧ ∀ t, t < lenF b n i j → b (i + t) = b (j + t) := by
  obtain ⟨h1, h2, h3, h4⟩ := lenG_bd (b := b) (n := n) (i := i) (j := j) 258 0
  exact ⟨by unfold lenF; omega, h3 hj, h4 fun t ht => absurd ht (Nat.not_lt_zero t)⟩
/-- The best match of those that are looked at. -/
def chainF (b : Nat → Int) (n at_ : Nat) : Nat → Int → Pc → Pc
  | 0, _, best => best
  | f + 1, from_, best => if 0 ≤ from_ ∧ (at_ : Int) - from_ ≤ 32768 then
      chainF b n at_ f (prevF b n from_.toNat) (if best.len < (lenF b n from_.toNat at_ : Nat) then ⟨0, (lenF b n from_.toNat at_ : Nat), at_ - from_⟩ else best) else best
def bestF (b : Nat → Int) (n at_ : Nat) : Pc := if at_ + 3 ≤ n then chainF b n at_ 24 (prevF b n at_) ⟨b at_, 0, 0⟩ else ⟨b at_, 0, 0⟩
def stepF (b : Nat → Int) (n at_ : Nat) : Nat := max (bestF b n at_).len.toNat 1
def atF (b : Nat → Int) (n : Nat) : Nat → Nat
  | 0 => 0
  | k + 1 => atF b n k + stepF b n (atF b n k)
def pcF (b : Nat → Int) (n k : Nat) : Pc := bestF b n (atF b n k)
/-- A piece that may stand at a place. -/
structure Fits (b : Nat → Int) (n at_ : Nat) (p : Pc) : Prop where
  kind : (p = ⟨b at_, 0, 0⟩) ∨ (p.byte = 0 ∧ 3 ≤ p.len ∧ p.len ≤ 258 ∧ 1 ≤ p.dist ∧ p.dist ≤ 32768 ∧ p.dist ≤ at_ ∧ (at_ : Int) + p.len ≤ n ∧ ∀ t : Nat, (t : Int) < p.len → b (at_ + t) = b (at_ + t - p.dist.toNat))
theorem chainF_fits {b : Nat → Int} {n at_ : Nat} (ha : at_ + 3 ≤ n) : ∀ (f : Nat) (from_ : Int) (best : Pc), (from_ = -1 ∨ ∃ q : Nat, from_ = q ∧ q < at_ ∧ b q = b at_ ∧ b (q + 1) = b (at_ + 1) ∧ b (q + 2) = b (at_ + 2)) → Fits b n at_ best → Fits b n at_ (chainF b n at_ f from_ best)
  | 0, _, _, _, h => h
  | f + 1, from_, best, hf, h => by
    unfold chainF
    by_cases hc : 0 ≤ from_ ∧ (at_ : Int) - from_ ≤ 32768
    · rw [if_pos hc]
      rcases hf with hf | ⟨q, rfl, hq, q0, q1, q2⟩
      · omega
      · rw [Int.toNat_natCast]
        refine chainF_fits ha f _ _ ?_ ?_
        · rcases lastF_bd (b := b) (n := n) (x := b q) (y := b (q + 1)) (z := b (q + 2)) q with e | ⟨r, e, hr, -, r0, r1, r2⟩
          · exact .inl e
          · exact .inr ⟨r, e, by omega, by rw [r0, q0], by rw [r1, q1], by rw [r2, q2]⟩
        · split
          · obtain ⟨l1, l2, l3⟩ := lenF_bd b n q at_ (by omega)
            have l4 : 0 + 3 ≤ lenF b n q at_ := lenG_ge 258 0 3 (by omega) fun t h1 h2 => ⟨by omega, by
              obtain rfl | rfl | rfl : t = 0 ∨ t = 1 ∨ t = 2 := by omega
              · exact q0
              · exact q1
              · exact q2⟩
            refine ⟨.inr ⟨rfl, ?_, ?_, ?_, hc.2, ?_, ?_, fun t ht => ?_⟩⟩
            · show (3 : Int) ≤ (lenF b n q at_ : Nat); omega
            · show ((lenF b n q at_ : Nat) : Int) ≤ 258; omega
            · show (1 : Int) ≤ (at_ : Int) - q; omega
            · show (at_ : Int) - q ≤ at_; omega
            · show (at_ : Int) + (lenF b n q at_ : Nat) ≤ n; omega
            · have ht' : (t : Int) < (lenF b n q at_ : Nat) := ht
              have e : ((at_ : Int) - q).toNat = at_ - q := by omega
              show b (at_ + t) = b (at_ + t - ((at_ : Int) - q).toNat)
              rw [e, show at_ + t - (at_ - q) = q + t by omega]
              exact (l3 t (by omega)).symm
          · exact h
    · rw [if_neg hc]; exact h
theorem bestF_fits (b : Nat → Int) (n at_ : Nat) : Fits b n at_ (bestF b n at_) := by
  unfold bestF
  by_cases h : at_ + 3 ≤ n
  · rw [if_pos h]
    refine chainF_fits h _ _ _ ?_ ⟨.inl rfl⟩
    rcases lastF_bd (b := b) (n := n) (x := b at_) (y := b (at_ + 1)) (z := b (at_ + 2)) at_ with e | ⟨q, e, hr, -, r⟩
    · exact .inl e
    · exact .inr ⟨q, e, hr, r⟩
  · rw [if_neg h]; exact ⟨.inl rfl⟩
theorem step_bd {b : Nat → Int} {n at_ : Nat} (ha : at_ < n) : 1 ≤ stepF b n at_ ∧ at_ + stepF b n at_ ≤ n ∧ stepF b n at_ ≤ 258 := by
  unfold stepF
  rcases (bestF_fits b n at_).kind with h | ⟨h1, h2, h3, h4, h5, h6, h7, h8⟩
  · rw [h]
    show 1 ≤ max (0 : Int).toNat 1 ∧ at_ + max (0 : Int).toNat 1 ≤ n ∧ max (0 : Int).toNat 1 ≤ 258
    have : max (0 : Int).toNat 1 = 1 := rfl
    omega
  · omega
/-- All pieces of bytes: there are K. -/
structure All (b : Nat → Int) (n K : Nat) : Prop where
  lt : ∀ k, k < K → atF b n k < n
  ge : n ≤ atF b n K
theorem atF_ge (b : Nat → Int) (n : Nat) : ∀ k, (∀ j, j < k → atF b n j < n) → k ≤ atF b n k ∧ atF b n k ≤ n
  | 0, _ => ⟨Nat.le_refl _, Nat.zero_le _⟩
  | k + 1, h => by
    obtain ⟨h1, h2⟩ := atF_ge b n k fun j hj => h j (by omega)
    obtain ⟨s1, s2, -⟩ := step_bd (h k (by omega)) (b := b)
    unfold atF
    omega
theorem All.uniq {b : Nat → Int} {n K K' : Nat} (h : All b n K) (h' : All b n K') : K = K' := by
  rcases Nat.lt_trichotomy K K' with e | e | e
  · have := h'.lt K e; have := h.ge; omega
  · exact e
  · have := h.lt K' e; have := h'.ge; omega
theorem All.end_ {b : Nat → Int} {n K : Nat} (h : All b n K) : atF b n K = n ∧ K ≤ n := by
  have h1 := atF_ge b n K h.lt
  have h2 := h.ge
  omega
/-- The bytes from s on, k of them. -/
def bytesL (b : Nat → Int) (k : Nat) : List Int := (List.range k).map b
theorem bytesL_len (b : Nat → Int) (k : Nat) : (bytesL b k).length = k := by simp [bytesL]
theorem bytesL_s (b : Nat → Int) (k : Nat) : bytesL b (k + 1) = bytesL b k ++ [b k] := by simp [bytesL, List.range_succ]
theorem bytesL_at {b : Nat → Int} {k i : Nat} (h : i < k) : (bytesL b k).getD i 0 = b i := by
  simp [bytesL, h]
theorem cpy_bytes {b : Nat → Int} {a d : Nat} (pre : List Int) (hd : 1 ≤ d) (hda : d ≤ a) : ∀ k, (∀ t, t < k → b (a + t) = b (a + t - d)) → cpy (pre ++ bytesL b a) d k = pre ++ bytesL b (a + k)
  | 0, _ => rfl
  | k + 1, h => by
    rw [cpy, cpy_bytes pre hd hda k fun t ht => h t (by omega), ← Nat.add_assoc, bytesL_s, ← List.append_assoc]
    congr 2
    rw [List.length_append, bytesL_len, h k (by omega), List.getD_eq_getElem?_getD, List.getElem?_append_right (by omega), ← List.getD_eq_getElem?_getD, show pre.length + (a + k) - d - pre.length = a + k - d by omega, bytesL_at (show a + k - d < a + k by omega)]
/-- Pieces of bytes say them, behind whatever was said. -/
theorem exp_pc (b : Nat → Int) (n : Nat) (pre : List Int) (hn : pre.length + n ≤ 65536) (k : Nat) (hk : atF b n k < n) : exp1 (pre ++ bytesL b (atF b n k)) (pcF b n k) = some (pre ++ bytesL b (atF b n (k + 1))) := by
  obtain ⟨s1, s2, -⟩ := step_bd hk (b := b)
  have hl : (pre ++ bytesL b (atF b n k)).length = pre.length + atF b n k := by rw [List.length_append, bytesL_len]
  unfold exp1
  rcases (bestF_fits b n (atF b n k)).kind with h | ⟨h1, h2, h3, h4, h5, h6, h7, h8⟩
  · have e : pcF b n k = ⟨b (atF b n k), 0, 0⟩ := h
    have es : atF b n (k + 1) = atF b n k + 1 := by rw [atF, stepF, h]; rfl
    rw [e, if_pos ⟨rfl, rfl⟩, if_neg (by rw [hl]; omega), es, bytesL_s, List.append_assoc]
  · have es : atF b n (k + 1) = atF b n k + (pcF b n k).len.toNat := by
      rw [atF, stepF]; show _ + max (bestF b n (atF b n k)).len.toNat 1 = _ + (bestF b n (atF b n k)).len.toNat; omega
    have e1 : (pcF b n k) = bestF b n (atF b n k) := rfl
    have hok : okM (pcF b n k) (pre ++ bytesL b (atF b n k)).length = true := by
      unfold okM
      rw [hl, e1]
      simp only [Bool.and_eq_true, decide_eq_true_eq]
      omega
    rw [if_neg (by rw [e1]; omega), if_pos hok, if_neg (by rw [hl, e1]; omega), es]
    congr 1
    refine cpy_bytes pre (by rw [e1]; omega) (by rw [e1]; omega) _ fun t ht => ?_
    rw [e1] at ht ⊢
    exact h8 t (by omega)
theorem expP_pc (b : Nat → Int) (n : Nat) (hn : n ≤ 65536) : ∀ k, (∀ j, j < k → atF b n j < n) → expP (pcF b n) k = some (bytesL b (atF b n k))
  | 0, _ => rfl
  | k + 1, h => by
    rw [expP, expP_pc b n hn k fun j hj => h j (by omega)]
    exact exp_pc b n [] (by simpa using hn) k (h k (by omega))
theorem expAll {b : Nat → Int} {n K : Nat} (hn : n ≤ 65536) (h : All b n K) : expP (pcF b n) K = some (bytesL b n) := by
  rw [expP_pc b n hn K h.lt, h.end_.1]
end Go.Proofs.Ytbaibkckigdndaa
