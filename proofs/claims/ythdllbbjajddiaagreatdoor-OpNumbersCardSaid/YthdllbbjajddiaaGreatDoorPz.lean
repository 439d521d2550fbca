/- Layer 25 (op): ops and their bytes, in plain Lean. No program in sight. -/

namespace Go.Proofs.YthdllbbjajddiaaGreatDoor
structure Fr where
  k : List Int
  a : Int
  n : Int
  u : Int
  r : Int
deriving Inhabited, DecidableEq
structure Pu where
  x : Int
  k : List Int
  o : Int
  m : Int
deriving Inhabited, DecidableEq
structure OpR where
  kd : Int
  at_ : Int
  n : Int
  sn : Int
  news : List Fr
  puts : List Pu
deriving Inhabited, DecidableEq
/-- A number's bytes, the greatest first. -/
def be : Nat → Int → List Int
  | 0, _ => []
  | s + 1, x => x / 256 ^ s % 256 :: be s x
def num (l : List Int) : Int := l.foldl (fun n c => 256 * n + c) 0
def Byt (l : List Int) : Prop := ∀ x ∈ l, 0 ≤ x ∧ x < 256
theorem be_len : ∀ (s : Nat) (x : Int), (be s x).length = s
  | 0, _ => rfl
  | s + 1, x => by rw [be, List.length_cons, be_len]
theorem be_byt : ∀ (s : Nat) (x : Int), Byt (be s x)
  | 0, _ => fun y hy => by cases hy
  | s + 1, x => fun y hy => by
    rcases List.mem_cons.1 hy with rfl | hy
    · exact ⟨Int.emod_nonneg _ (by decide), Int.emod_lt_of_pos _ (by decide)⟩
    · exact be_byt s x y hy
theorem num_snoc (l : List Int) (c : Int) : num (l ++ [c]) = 256 * num l + c := by simp [num]
theorem num_acc : ∀ (l : List Int) (n : Int), l.foldl (fun n c => 256 * n + c) n = 256 ^ l.length * n + num l
  | [], n => by simp [num]
  | c :: l, n => by
    show l.foldl _ (256 * n + c) = _
    rw [num_acc l (256 * n + c)]
    show _ = 256 ^ (l.length + 1) * n + l.foldl _ (256 * 0 + c)
    rw [num_acc l (256 * 0 + c), Int.pow_succ, Int.mul_add, Int.mul_zero, Int.zero_add, Int.mul_assoc, Int.add_assoc]
theorem num_cons (c : Int) (l : List Int) : num (c :: l) = 256 ^ l.length * c + num l := by
  show l.foldl _ (256 * 0 + c) = _
  rw [num_acc]; simp
theorem pow_pos256 (s : Nat) : (0 : Int) < 256 ^ s := Int.pow_pos (by decide)
theorem num_be : ∀ (s : Nat) (x : Int), num (be s x) = x % 256 ^ s
  | 0, x => by simp [be, num, Int.emod_one]
  | s + 1, x => by
    rw [be, num_cons, be_len, num_be s x, Int.pow_succ]
    have h := Int.emod_add_mul_ediv x (256 ^ s)
    have h2 := Int.emod_add_mul_ediv (x / 256 ^ s) 256
    have h3 := Int.emod_add_mul_ediv x (256 ^ s * 256)
    have e1 : x / (256 ^ s * 256) = x / 256 ^ s / 256 := (Int.ediv_ediv_of_nonneg (Int.le_of_lt (pow_pos256 s))).symm
    rw [e1] at h3
    have h4 : 256 ^ s * (x / 256 ^ s % 256) + 256 ^ s * (256 * (x / 256 ^ s / 256)) = 256 ^ s * (x / 256 ^ s) := by rw [← Int.mul_add, h2]
    have h5 : 256 ^ s * (256 * (x / 256 ^ s / 256)) = 256 ^ s * 256 * (x / 256 ^ s / 256) := by rw [Int.mul_assoc]
    omega
theorem num_bd : ∀ (l : List Int), Byt l → 0 ≤ num l ∧ num l < 256 ^ l.length
  | [], _ => by simp [num]
  | c :: l, h => by
    obtain ⟨h1, h2⟩ := num_bd l fun x hx => h x (List.mem_cons_of_mem _ hx)
    obtain ⟨h3, h4⟩ := h c List.mem_cons_self
    rw [num_cons, List.length_cons, Int.pow_succ]
    have hp := pow_pos256 l.length
    have h5 : 0 ≤ 256 ^ l.length * c := Int.mul_nonneg (Int.le_of_lt hp) h3
    have h6 : 256 ^ l.length * c ≤ 256 ^ l.length * 255 := Int.mul_le_mul_of_nonneg_left (by omega) (Int.le_of_lt hp)
    omega
theorem be_num : ∀ (l : List Int), Byt l → be l.length (num l) = l
  | [], _ => rfl
  | c :: l, h => by
    have hl : Byt l := fun x hx => h x (List.mem_cons_of_mem _ hx)
    obtain ⟨h1, h2⟩ := num_bd l hl
    obtain ⟨h3, h4⟩ := h c List.mem_cons_self
    have hp := pow_pos256 l.length
    have e1 : (256 ^ l.length * c + num l) / 256 ^ l.length = c := by
      rw [Int.add_comm, Int.add_mul_ediv_left _ _ (by omega), Int.ediv_eq_zero_of_lt h1 h2, Int.zero_add]
    have e2 : be l.length (256 ^ l.length * c + num l) = be l.length (num l) := by
      have h9 : ∀ (s : Nat) (x y : Int), x % 256 ^ s = y % 256 ^ s → be s x = be s y := by
        intro s
        induction s with
        | zero => intros; rfl
        | succ s ih =>
          intro x y hxy
          have a1 := num_be (s + 1) x
          have a2 := num_be (s + 1) y
          have b1 : x % 256 ^ s = y % 256 ^ s := by
            have := congrArg (· % 256 ^ s) hxy
            simpa [Int.pow_succ, Int.emod_emod_of_dvd _ (Int.dvd_mul_right (256 ^ s) 256)] using this
          rw [be, be, ih x y b1]
          rw [← a1, ← a2, be, be, num_cons, num_cons, be_len, be_len, ih x y b1] at hxy
          have hp := pow_pos256 s
          have hz : (256 : Int) ^ s ≠ 0 := by omega
          have hxy2 : 256 ^ s * (x / 256 ^ s % 256) = 256 ^ s * (y / 256 ^ s % 256) := by omega
          rw [Int.eq_of_mul_eq_mul_left hz hxy2]
      exact h9 _ _ _ (by rw [Int.add_comm, Int.add_mul_emod_self_left])
    rw [num_cons, List.length_cons, be, e1, e2, be_num l hl, Int.emod_eq_of_lt h3 h4]
/-- What reads: the bytes left, and whether there were too few. -/
abbrev Rd := List Int × Bool
def takeR (n : Nat) (st : Rd) : List Int × Rd := if st.2 = true ∨ st.1.length < n then (List.replicate n 0, (st.1, true)) else (st.1.take n, (st.1.drop n, false))
def numR (s : Nat) (st : Rd) : Int × Rd := (num (takeR s st).1, (takeR s st).2)
def freshR (st : Rd) : Fr × Rd :=
  let k := takeR 32 st; let a := numR 4 k.2; let n := numR 2 a.2; let u := numR 1 n.2
  (⟨k.1, a.1, n.1, u.1, 0⟩, u.2)
def putR (st : Rd) : Pu × Rd :=
  let x := numR 2 st; let k := takeR 32 x.2; let o := numR 1 k.2; let m := numR 1 o.2
  (⟨x.1, k.1, o.1, m.1⟩, m.2)
def rowsR {α : Type} (one : Rd → α × Rd) : Nat → Rd → List α × Rd
  | 0, st => ([], st)
  | n + 1, st => if st.2 = true then ([], st) else ((one st).1 :: (rowsR one n (one st).2).1, (rowsR one n (one st).2).2)
def rowR {α : Type} (one : Rd → α × Rd) (st : Rd) : List α × Rd := rowsR one (numR 1 st).1.toNat (numR 1 st).2
def parse (st : Rd) : OpR × Rd :=
  let kd := numR 1 st
  if kd.1 = 1 then let ns := rowR freshR kd.2; let ps := rowR putR ns.2; (⟨1, 0, 0, 0, ns.1, ps.1⟩, ps.2)
  else if kd.1 = 2 then let a := numR 2 kd.2; let n := numR 2 a.2; (⟨2, a.1, n.1, 0, [], []⟩, n.2)
  else let s := numR 4 kd.2; (⟨kd.1, 0, 0, s.1, [], []⟩, s.2)
def encF (f : Fr) : List Int := f.k ++ (be 4 f.a ++ (be 2 f.n ++ be 1 f.u))
def encP (p : Pu) : List Int := be 2 p.x ++ (p.k ++ (be 1 p.o ++ be 1 p.m))
def encRow {α : Type} (e : α → List Int) (l : List α) : List Int := be 1 l.length ++ l.flatMap e
def enc (o : OpR) : List Int := be 1 o.kd ++ (if o.kd = 1 then encRow encF o.news ++ encRow encP o.puts else if o.kd = 2 then be 2 o.at_ ++ be 2 o.n else be 4 o.sn)
/-- What may be written so that it is read. -/
def DF (f : Fr) : Prop := f.k.length = 32 ∧ (0 ≤ f.a ∧ f.a < 4294967296) ∧ (0 ≤ f.n ∧ f.n < 65536) ∧ (0 ≤ f.u ∧ f.u < 256) ∧ f.r = 0
def DP (p : Pu) : Prop := (0 ≤ p.x ∧ p.x < 65536) ∧ p.k.length = 32 ∧ (0 ≤ p.o ∧ p.o < 256) ∧ (0 ≤ p.m ∧ p.m < 256)
def DO (o : OpR) : Prop := (0 ≤ o.kd ∧ o.kd < 256) ∧ (o.kd = 1 → o.at_ = 0 ∧ o.n = 0 ∧ o.sn = 0 ∧ o.news.length < 256 ∧ o.puts.length < 256 ∧ (∀ f ∈ o.news, DF f) ∧ ∀ p ∈ o.puts, DP p) ∧
  (o.kd = 2 → (0 ≤ o.at_ ∧ o.at_ < 65536) ∧ (0 ≤ o.n ∧ o.n < 65536) ∧ o.sn = 0) ∧ (o.kd ≠ 1 → o.news = [] ∧ o.puts = []) ∧ (o.kd ≠ 1 → o.kd ≠ 2 → o.at_ = 0 ∧ o.n = 0 ∧ 0 ≤ o.sn ∧ o.sn < 4294967296)
theorem take_app {l t : List Int} {n : Nat} (h : l.length = n) : takeR n (l ++ t, false) = (l, (t, false)) := by
  subst h
  unfold takeR
  rw [if_neg (by simp)]
  simp
theorem take_byt {n : Nat} {st : Rd} (h : Byt st.1) : Byt (takeR n st).2.1 := by
  unfold takeR
  split
  · exact h
  · exact fun x hx => h x (List.mem_of_mem_drop hx)
theorem take_inv {n : Nat} {st : Rd} {x t : List Int} (h : takeR n st = (x, (t, false))) : st = (x ++ t, false) ∧ x.length = n := by
  obtain ⟨l, b⟩ := st
  unfold takeR at h
  split at h
  · injection h with h1 h2; injection h2 with h2 h3; cases h3
  · rename_i h0
    injection h with h1 h2; injection h2 with h2 h3
    subst h1 h2
    dsimp only at h0 ⊢
    have hb : b = false := by cases b <;> simp_all
    refine ⟨by rw [hb, List.take_append_drop], ?_⟩
    rw [List.length_take]
    have : ¬ l.length < n := fun h => h0 (.inr h)
    omega
theorem num_app {s : Nat} {x : Int} {t : List Int} (h1 : 0 ≤ x) (h2 : x < 256 ^ s) : numR s (be s x ++ t, false) = (x, (t, false)) := by
  unfold numR
  rw [take_app (be_len s x), num_be, Int.emod_eq_of_lt h1 h2]
theorem num_byt {s : Nat} {st : Rd} (h : Byt st.1) : Byt (numR s st).2.1 := take_byt h
theorem num_inv {s : Nat} {st : Rd} {t : List Int} {x : Int} (h : numR s st = (x, (t, false))) (hl : Byt st.1) : st = (be s x ++ t, false) ∧ (0 ≤ x ∧ x < 256 ^ s) := by
  unfold numR at h
  injection h with h1 h2
  obtain ⟨e2, e3⟩ := take_inv (x := (takeR s st).1) (t := t) (Prod.ext rfl h2)
  have hb : Byt (takeR s st).1 := fun y hy => hl y (by rw [e2]; exact List.mem_append_left _ hy)
  have h3 := be_num _ hb
  have h4 := num_bd _ hb
  rw [e3, h1] at h3
  rw [e3, h1] at h4
  exact ⟨by rw [h3]; exact e2, h4⟩
theorem fresh_app {f : Fr} (h : DF f) (t : List Int) : freshR (encF f ++ t, false) = (f, (t, false)) := by
  obtain ⟨h1, h2, h3, h4, h5⟩ := h
  unfold freshR encF
  simp only [List.append_assoc]
  rw [take_app h1]
  dsimp only
  rw [num_app h2.1 (by omega)]
  dsimp only
  rw [num_app h3.1 (by omega)]
  dsimp only
  rw [num_app h4.1 (by omega)]
  dsimp only
  rw [← h5]
theorem put_app {p : Pu} (h : DP p) (t : List Int) : putR (encP p ++ t, false) = (p, (t, false)) := by
  obtain ⟨h1, h2, h3, h4⟩ := h
  unfold putR encP
  simp only [List.append_assoc]
  rw [num_app h1.1 (by omega)]
  dsimp only
  rw [take_app h2]
  dsimp only
  rw [num_app h3.1 (by omega)]
  dsimp only
  rw [num_app h4.1 (by omega)]
theorem lt1 {x : Int} (h : x < 256 ^ 1) : x < 256 := by omega
theorem lt2 {x : Int} (h : x < 256 ^ 2) : x < 65536 := by omega
theorem lt4 {x : Int} (h : x < 256 ^ 4) : x < 4294967296 := by omega
/-- A reader that ends well began well, and read just what is written. -/
def Inv {α : Type} (one : Rd → α × Rd) (e : α → List Int) (D : α → Prop) : Prop := ∀ st x t, one st = (x, (t, false)) → Byt st.1 → st = (e x ++ t, false) ∧ D x
theorem byt_of {α : Type} {p : α × Rd} {x : α} {s : Rd} (h : p = (x, s)) (hb : Byt p.2.1) : Byt s.1 := by rw [h] at hb; exact hb
theorem fresh_inv : Inv freshR encF DF := by
  intro st x t h hl
  unfold freshR at h
  dsimp only at h
  rcases hk : takeR 32 st with ⟨k, s1⟩
  rw [hk] at h
  dsimp only at h
  rcases ha : numR 4 s1 with ⟨a, s2⟩
  rw [ha] at h
  dsimp only at h
  rcases hn : numR 2 s2 with ⟨n, s3⟩
  rw [hn] at h
  dsimp only at h
  rcases hu : numR 1 s3 with ⟨u, s4⟩
  rw [hu] at h
  injection h with h1 h2
  subst h1 h2
  have b1 := byt_of hk (take_byt hl)
  have b2 := byt_of ha (num_byt b1)
  have b3 := byt_of hn (num_byt b2)
  obtain ⟨e1, r1⟩ := num_inv hu b3
  rw [e1] at hn
  obtain ⟨e2, r2⟩ := num_inv hn b2
  rw [e2] at ha
  obtain ⟨e3, r3⟩ := num_inv ha b1
  rw [e3] at hk
  obtain ⟨e4, r4⟩ := take_inv hk
  refine ⟨e4.trans ?_, r4, ⟨r3.1, lt4 r3.2⟩, ⟨r2.1, lt2 r2.2⟩, ⟨r1.1, lt1 r1.2⟩, rfl⟩
  unfold encF
  simp only [List.append_assoc]
theorem put_inv : Inv putR encP DP := by
  intro st x t h hl
  unfold putR at h
  dsimp only at h
  rcases hx : numR 2 st with ⟨x1, s1⟩
  rw [hx] at h
  dsimp only at h
  rcases hk : takeR 32 s1 with ⟨k, s2⟩
  rw [hk] at h
  dsimp only at h
  rcases hn : numR 1 s2 with ⟨n, s3⟩
  rw [hn] at h
  dsimp only at h
  rcases hu : numR 1 s3 with ⟨u, s4⟩
  rw [hu] at h
  injection h with h1 h2
  subst h1 h2
  have b1 := byt_of hx (num_byt hl)
  have b2 := byt_of hk (take_byt b1)
  have b3 := byt_of hn (num_byt b2)
  obtain ⟨e1, r1⟩ := num_inv hu b3
  rw [e1] at hn
  obtain ⟨e2, r2⟩ := num_inv hn b2
  rw [e2] at hk
  obtain ⟨e3, r3⟩ := take_inv hk
  rw [e3] at hx
  obtain ⟨e4, r4⟩ := num_inv hx hl
  refine ⟨e4.trans ?_, ⟨r4.1, lt2 r4.2⟩, r3, ⟨r2.1, lt1 r2.2⟩, ⟨r1.1, lt1 r1.2⟩⟩
  unfold encP
  simp only [List.append_assoc]
theorem rows_app {α : Type} {one : Rd → α × Rd} {e : α → List Int} {D : α → Prop} (ha : ∀ x, D x → ∀ t, one (e x ++ t, false) = (x, (t, false))) : ∀ (l : List α), (∀ x ∈ l, D x) → ∀ t, rowsR one l.length (l.flatMap e ++ t, false) = (l, (t, false))
  | [], _, t => rfl
  | x :: l, h, t => by
    have h1 := ha x (h x List.mem_cons_self) (l.flatMap e ++ t)
    rw [List.length_cons, rowsR, if_neg (by simp), List.flatMap_cons, List.append_assoc, h1]
    dsimp only
    rw [rows_app ha l (fun y hy => h y (List.mem_cons_of_mem _ hy)) t]
theorem rows_inv {α : Type} {one : Rd → α × Rd} {e : α → List Int} {D : α → Prop} (hi : Inv one e D) (hb : ∀ st, Byt st.1 → Byt (one st).2.1) : ∀ (n : Nat) (st : Rd) (l : List α) (t : List Int), rowsR one n st = (l, (t, false)) → Byt st.1 → st = (l.flatMap e ++ t, false) ∧ (∀ x ∈ l, D x) ∧ l.length = n
  | 0, st, l, t, h, _ => by
    injection h with h1 h2
    subst h1 h2
    exact ⟨rfl, (fun x hx => absurd hx List.not_mem_nil), rfl⟩
  | n + 1, st, l, t, h, hl => by
    rw [rowsR] at h
    split at h
    · rename_i h0
      injection h with h1 h2
      rw [h2] at h0; cases h0
    · injection h with h1 h2
      obtain ⟨e1, r1, r2⟩ := rows_inv hi hb n (one st).2 _ t (Prod.ext rfl h2) (hb st hl)
      obtain ⟨e2, r3⟩ := hi st _ _ (Prod.ext rfl e1) hl
      rw [← h1]
      refine ⟨by rw [List.flatMap_cons, List.append_assoc]; exact e2, fun x hx => ?_, by rw [List.length_cons, r2]⟩
      rcases List.mem_cons.1 hx with rfl | hx
      · exact r3
      · exact r1 x hx
theorem fresh_byt (st : Rd) (h : Byt st.1) : Byt (freshR st).2.1 := num_byt (num_byt (num_byt (take_byt h)))
theorem put_byt (st : Rd) (h : Byt st.1) : Byt (putR st).2.1 := num_byt (num_byt (take_byt (num_byt h)))
theorem rows_byt {α : Type} {one : Rd → α × Rd} (hb : ∀ st, Byt st.1 → Byt (one st).2.1) : ∀ (n : Nat) (st : Rd), Byt st.1 → Byt (rowsR one n st).2.1
  | 0, _, h => h
  | n + 1, st, h => by
    rw [rowsR]
    split
    · exact h
    · exact rows_byt hb n _ (hb st h)
theorem row_byt {α : Type} {one : Rd → α × Rd} (hb : ∀ st, Byt st.1 → Byt (one st).2.1) (st : Rd) (h : Byt st.1) : Byt (rowR one st).2.1 := rows_byt hb _ _ (num_byt h)
theorem row_app {α : Type} {one : Rd → α × Rd} {e : α → List Int} {D : α → Prop} (ha : ∀ x, D x → ∀ t, one (e x ++ t, false) = (x, (t, false))) (l : List α) (h : ∀ x ∈ l, D x) (hn : l.length < 256) (t : List Int) : rowR one (encRow e l ++ t, false) = (l, (t, false)) := by
  unfold rowR encRow
  rw [List.append_assoc, num_app (by omega) (by omega)]
  dsimp only
  rw [Int.toNat_natCast]
  exact rows_app ha l h t
theorem row_inv {α : Type} {one : Rd → α × Rd} {e : α → List Int} {D : α → Prop} (hi : Inv one e D) (hb : ∀ st, Byt st.1 → Byt (one st).2.1) {st : Rd} {l : List α} {t : List Int} (h : rowR one st = (l, (t, false))) (hl : Byt st.1) : st = (encRow e l ++ t, false) ∧ (∀ x ∈ l, D x) ∧ l.length < 256 := by
  unfold rowR at h
  rcases hn : numR 1 st with ⟨n, s1⟩
  rw [hn] at h
  dsimp only at h
  obtain ⟨e1, r1, r2⟩ := rows_inv hi hb _ _ _ _ h (byt_of hn (num_byt hl))
  rw [e1] at hn
  obtain ⟨e2, r3⟩ := num_inv hn hl
  have h3 : ((l.length : Nat) : Int) = n := by rw [r2]; exact Int.toNat_of_nonneg r3.1
  refine ⟨?_, r1, by have := lt1 r3.2; omega⟩
  unfold encRow
  rw [h3, List.append_assoc]
  exact e2
theorem parse_app {o : OpR} (h : DO o) (t : List Int) : parse (enc o ++ t, false) = (o, (t, false)) := by
  obtain ⟨h1, h2, h3, h4, h5⟩ := h
  unfold parse enc
  rw [List.append_assoc, num_app h1.1 (by omega)]
  dsimp only
  by_cases k1 : o.kd = 1
  · obtain ⟨a1, a2, a3, a4, a5, a6, a7⟩ := h2 k1
    rw [if_pos k1, if_pos k1, List.append_assoc, row_app (fun x hx t => fresh_app hx t) o.news a6 a4]
    dsimp only
    rw [row_app (fun x hx t => put_app hx t) o.puts a7 a5]
    dsimp only
    obtain ⟨kd, at_, n, sn, news, puts⟩ := o
    simp_all
  · rw [if_neg k1, if_neg k1]
    obtain ⟨b1, b2⟩ := h4 k1
    by_cases k2 : o.kd = 2
    · obtain ⟨a1, a2, a3⟩ := h3 k2
      rw [if_pos k2, if_pos k2, List.append_assoc, num_app a1.1 (by omega)]
      dsimp only
      rw [num_app a2.1 (by omega)]
      dsimp only
      obtain ⟨kd, at_, n, sn, news, puts⟩ := o
      simp_all
    · obtain ⟨a1, a2, a3, a4⟩ := h5 k1 k2
      rw [if_neg k2, if_neg k2, num_app a3 (by omega)]
      dsimp only
      obtain ⟨kd, at_, n, sn, news, puts⟩ := o
      simp_all
theorem parse_inv {st : Rd} {o : OpR} {t : List Int} (h : parse st = (o, (t, false))) (hl : Byt st.1) : st = (enc o ++ t, false) ∧ DO o := by
  unfold parse at h
  dsimp only at h
  rcases hk : numR 1 st with ⟨kd, s1⟩
  rw [hk] at h
  dsimp only at h
  have b1 := byt_of hk (num_byt hl)
  split at h
  · rename_i k1
    rcases hns : rowR freshR s1 with ⟨ns, s2⟩
    rw [hns] at h
    dsimp only at h
    rcases hps : rowR putR s2 with ⟨ps, s3⟩
    rw [hps] at h
    injection h with h1 h2
    subst h1 h2 k1
    obtain ⟨e1, r1, r2⟩ := row_inv put_inv put_byt hps (byt_of hns (row_byt fresh_byt _ b1))
    rw [e1] at hns
    obtain ⟨e2, r3, r4⟩ := row_inv fresh_inv fresh_byt hns b1
    rw [e2] at hk
    obtain ⟨e3, r5⟩ := num_inv hk hl
    refine ⟨e3.trans ?_, ⟨by dsimp only; omega, by dsimp only; omega⟩, fun _ => ⟨rfl, rfl, rfl, r4, r2, r3, r1⟩, (fun k => by cases k), fun k => absurd rfl k, fun k => absurd rfl k⟩
    unfold enc
    rw [if_pos rfl]
    simp only [List.append_assoc]
  · rename_i k1
    split at h
    · rename_i k2
      rcases ha : numR 2 s1 with ⟨a, s2⟩
      rw [ha] at h
      dsimp only at h
      rcases hn : numR 2 s2 with ⟨n, s3⟩
      rw [hn] at h
      injection h with h1 h2
      subst h1 h2 k2
      obtain ⟨e1, r1⟩ := num_inv hn (byt_of ha (num_byt b1))
      rw [e1] at ha
      obtain ⟨e2, r2⟩ := num_inv ha b1
      rw [e2] at hk
      obtain ⟨e3, r5⟩ := num_inv hk hl
      refine ⟨e3.trans ?_, ⟨by dsimp only; omega, by dsimp only; omega⟩, (fun k => by cases k), fun _ => ⟨⟨r2.1, lt2 r2.2⟩, ⟨r1.1, lt2 r1.2⟩, rfl⟩, fun _ => ⟨rfl, rfl⟩, fun _ k => absurd rfl k⟩
      unfold enc
      rw [if_neg (fun k => by cases k), if_pos rfl]
      simp only [List.append_assoc]
    · rename_i k2
      rcases hn : numR 4 s1 with ⟨n, s3⟩
      rw [hn] at h
      injection h with h1 h2
      subst h1 h2
      obtain ⟨e1, r1⟩ := num_inv hn b1
      rw [e1] at hk
      obtain ⟨e3, r5⟩ := num_inv hk hl
      refine ⟨e3.trans ?_, ⟨r5.1, lt1 r5.2⟩, fun k => absurd k k1, fun k => absurd k k2, fun _ => ⟨rfl, rfl⟩, fun _ _ => ⟨rfl, rfl, r1.1, lt4 r1.2⟩⟩
      unfold enc
      rw [if_neg k1, if_neg k2]
      simp only [List.append_assoc]
/-- May an op be? -/
def frB (f : Fr) : Bool := decide (0 ≤ f.a ∧ f.a ≤ 262144) && decide (1 ≤ f.n ∧ f.n ≤ 1024) && decide (1 ≤ f.u ∧ f.u ≤ 16) && decide (f.r = 0)
def putsB : Int → List Pu → Bool
  | _, [] => true
  | least, p :: l => decide (least ≤ p.x ∧ p.x ≤ 511) && decide (0 ≤ p.o ∧ p.o ≤ 15) && decide (1 ≤ p.m ∧ p.m ≤ 255) && putsB (p.x + 1) l
def writeB (o : OpR) : Bool := o.news.all frB && decide ((o.news.map Fr.k).Nodup) && putsB 0 o.puts && decide (o.news.length ≤ 18) && decide (o.puts.length ≤ 18)
def rightB (o : OpR) : Bool :=
  if o.kd = 1 then decide (o.at_ = 0) && decide (o.n = 0) && decide (o.sn = 0) && writeB o
  else if o.kd = 2 then decide (o.news.length = 0) && decide (o.puts.length = 0) && decide (o.sn = 0) && decide (0 ≤ o.at_ ∧ o.at_ ≤ 4096) && decide (0 ≤ o.n ∧ o.n ≤ 4096)
  else if o.kd = 3 ∨ o.kd = 4 ∨ o.kd = 5 then decide (o.news.length = 0) && decide (o.puts.length = 0) && decide (o.at_ = 0) && decide (o.n = 0) && decide (1 ≤ o.sn ∧ o.sn ≤ 1073741824)
  else false
/-- Keys have 32 bytes (as all arrays of the type have). -/
def KO (o : OpR) : Prop := (∀ f ∈ o.news, f.k.length = 32) ∧ ∀ p ∈ o.puts, p.k.length = 32
theorem puts_dom : ∀ (l : List Pu) (least : Int), 0 ≤ least → putsB least l = true → (∀ p ∈ l, p.k.length = 32) → ∀ p ∈ l, DP p
  | [], _, _, _, _ => fun p hp => by cases hp
  | q :: l, least, h0, h, hk => by
    simp only [putsB, Bool.and_eq_true, decide_eq_true_eq] at h
    intro p hp
    rcases List.mem_cons.1 hp with rfl | hp
    · exact ⟨by omega, hk p List.mem_cons_self, by omega, by omega⟩
    · exact puts_dom l (q.x + 1) (by omega) h.2 (fun x hx => hk x (List.mem_cons_of_mem _ hx)) p hp
theorem right_dom {o : OpR} (h : rightB o = true) (hk : KO o) : DO o := by
  unfold rightB at h
  by_cases k1 : o.kd = 1
  · rw [if_pos k1] at h
    simp only [writeB, Bool.and_eq_true, decide_eq_true_eq, List.all_eq_true] at h
    obtain ⟨⟨⟨a1, a2⟩, a3⟩, ⟨⟨⟨a4, a5⟩, a6⟩, a7⟩, a8⟩ := h
    refine ⟨by omega, fun _ => ⟨a1, a2, a3, by omega, by omega, fun f hf => ?_, puts_dom _ 0 (by omega) a6 hk.2⟩, fun k => by omega, fun k => absurd k1 k, fun k => absurd k1 k⟩
    have := a4 f hf
    simp only [frB, Bool.and_eq_true, decide_eq_true_eq] at this
    exact ⟨hk.1 f hf, by omega, by omega, by omega, this.2⟩
  · rw [if_neg k1] at h
    by_cases k2 : o.kd = 2
    · rw [if_pos k2] at h
      simp only [Bool.and_eq_true, decide_eq_true_eq] at h
      exact ⟨by omega, fun k => absurd k k1, fun _ => ⟨by omega, by omega, by omega⟩, fun _ => ⟨List.eq_nil_of_length_eq_zero h.1.1.1.1, List.eq_nil_of_length_eq_zero h.1.1.1.2⟩, fun _ k => absurd k2 k⟩
    · rw [if_neg k2] at h
      split at h
      · simp only [Bool.and_eq_true, decide_eq_true_eq] at h
        exact ⟨by omega, fun k => absurd k k1, fun k => absurd k k2, fun _ => ⟨List.eq_nil_of_length_eq_zero h.1.1.1.1, List.eq_nil_of_length_eq_zero h.1.1.1.2⟩, fun _ _ => ⟨by omega, by omega, by omega, by omega⟩⟩
      · cases h
/-- The op whose bytes any are. -/
def dec (b : List Int) : Option OpR := if (parse (b, false)).2.2 = true ∨ (parse (b, false)).2.1 ≠ [] ∨ rightB (parse (b, false)).1 = false then none else some (parse (b, false)).1
theorem dec_enc {o : OpR} (h : rightB o = true) (hk : KO o) : dec (enc o) = some o := by
  have h1 := parse_app (right_dom h hk) []
  rw [List.append_nil] at h1
  unfold dec
  rw [h1, if_neg (by simp [h])]
theorem dec_more {o : OpR} (h : rightB o = true) (hk : KO o) {t : List Int} (ht : t ≠ []) : dec (enc o ++ t) = none := by
  have h1 := parse_app (right_dom h hk) t
  unfold dec
  rw [h1, if_pos (.inr (.inl ht))]
theorem dec_some {b : List Int} {o : OpR} (h : dec b = some o) (hb : Byt b) : rightB o = true ∧ enc o = b ∧ DO o := by
  unfold dec at h
  split at h
  · cases h
  · rename_i h0
    have h1 := Option.some.inj h
    have hbad : (parse (b, false)).2.2 = false := by
      cases hc : (parse (b, false)).2.2 with
      | false => rfl
      | true => exact absurd (.inl hc) h0
    have hrest : (parse (b, false)).2.1 = [] := by
      by_cases hc : (parse (b, false)).2.1 = []
      · exact hc
      · exact absurd (.inr (.inl hc)) h0
    have hr : rightB (parse (b, false)).1 = true := by
      cases hc : rightB (parse (b, false)).1 with
      | true => rfl
      | false => exact absurd (.inr (.inr hc)) h0
    have h2 := parse_inv (Prod.ext h1 (Prod.ext hrest hbad) : parse (b, false) = (o, ([], false))) hb
    rw [h1] at hr
    have h3 := congrArg Prod.fst h2.1
    rw [List.append_nil] at h3
    exact ⟨hr, h3.symm, h2.2⟩
theorem dec_cut {o : OpR} (h : rightB o = true) (hk : KO o) (hb : Byt (enc o)) {c : Nat} (hc : c < (enc o).length) : dec ((enc o).take c) = none := by
  cases hd : dec ((enc o).take c) with
  | none => rfl
  | some o' =>
    obtain ⟨h1, h2, h3⟩ := dec_some hd fun x hx => hb x (List.mem_of_mem_take hx)
    have h4 := parse_app h3 ((enc o).drop c)
    rw [h2, List.take_append_drop] at h4
    have h5 := parse_app (right_dom h hk) []
    rw [List.append_nil, h4] at h5
    injection h5 with h5 h6
    injection h6 with h6 h7
    have := congrArg List.length h6
    simp at this
    omega
theorem encF_len {f : Fr} (h : f.k.length = 32) : (encF f).length = 39 := by unfold encF; simp [be_len, h]
theorem encP_len {p : Pu} (h : p.k.length = 32) : (encP p).length = 36 := by unfold encP; simp [be_len, h]
theorem flat_len {α : Type} {e : α → List Int} {s : Nat} : ∀ (l : List α), (∀ x ∈ l, (e x).length = s) → (l.flatMap e).length = l.length * s
  | [], _ => by simp
  | x :: l, h => by
    rw [List.flatMap_cons, List.length_append, h x List.mem_cons_self, flat_len l (fun y hy => h y (List.mem_cons_of_mem _ hy)), List.length_cons, Nat.add_mul]
    omega
theorem enc_len {o : OpR} (h : rightB o = true) (hk : KO o) : 1 ≤ (enc o).length ∧ (enc o).length ≤ 1353 := by
  unfold enc
  rw [List.length_append, be_len]
  refine ⟨by omega, ?_⟩
  split
  · rename_i k1
    unfold rightB at h
    rw [if_pos k1] at h
    simp only [writeB, Bool.and_eq_true, decide_eq_true_eq] at h
    unfold encRow
    simp only [List.length_append, be_len]
    rw [flat_len o.news fun f hf => encF_len (hk.1 f hf), flat_len o.puts fun p hp => encP_len (hk.2 p hp)]
    omega
  · split
    · simp only [List.length_append, be_len]; omega
    · rw [be_len]; omega
end Go.Proofs.YthdllbbjajddiaaGreatDoor
namespace Go.Proofs.YthdllbbjajddiaaGreatDoor
def takeZ (n : Nat) (l : List Int) : List Int × List Int := ((l ++ List.replicate n 0).take n, l.drop n)
def numZ (s : Nat) (l : List Int) : Int × List Int := (num (takeZ s l).1, (takeZ s l).2)
def freshZ (l : List Int) : Fr × List Int :=
  let k := takeZ 32 l; let a := numZ 4 k.2; let n := numZ 2 a.2; let u := numZ 1 n.2
  (⟨k.1, a.1, n.1, u.1, 0⟩, u.2)
def putZ (l : List Int) : Pu × List Int :=
  let x := numZ 2 l; let k := takeZ 32 x.2; let o := numZ 1 k.2; let m := numZ 1 o.2
  (⟨x.1, k.1, o.1, m.1⟩, m.2)
def rowsZ {α : Type} (one : List Int → α × List Int) : Nat → List Int → List α × List Int
  | 0, l => ([], l)
  | n + 1, l => ((one l).1 :: (rowsZ one n (one l).2).1, (rowsZ one n (one l).2).2)
def rowZ {α : Type} (one : List Int → α × List Int) (l : List Int) : List α × List Int := rowsZ one (numZ 1 l).1.toNat (numZ 1 l).2
def parseZ (l : List Int) : OpR :=
  let kd := numZ 1 l
  if kd.1 = 1 then let ns := rowZ freshZ kd.2; let ps := rowZ putZ ns.2; ⟨1, 0, 0, 0, ns.1, ps.1⟩
  else if kd.1 = 2 then let a := numZ 2 kd.2; let n := numZ 2 a.2; ⟨2, a.1, n.1, 0, [], []⟩
  else let s := numZ 4 kd.2; ⟨kd.1, 0, 0, s.1, [], []⟩
theorem takeZ_app {l t : List Int} {n : Nat} (h : l.length = n) : takeZ n (l ++ t) = (l, t) := by
  subst h
  unfold takeZ
  simp
theorem takeZ_len (n : Nat) (l : List Int) : (takeZ n l).1.length = n := by
  unfold takeZ
  simp only [List.length_take, List.length_append, List.length_replicate]
  omega
theorem numZ_app {s : Nat} {x : Int} {t : List Int} (h1 : 0 ≤ x) (h2 : x < 256 ^ s) : numZ s (be s x ++ t) = (x, t) := by
  unfold numZ
  rw [takeZ_app (be_len s x), num_be, Int.emod_eq_of_lt h1 h2]
theorem freshZ_app {f : Fr} (h : DF f) (t : List Int) : freshZ (encF f ++ t) = (f, t) := by
  obtain ⟨h1, h2, h3, h4, h5⟩ := h
  unfold freshZ encF
  simp only [List.append_assoc]
  rw [takeZ_app h1]
  dsimp only
  rw [numZ_app h2.1 (by omega)]
  dsimp only
  rw [numZ_app h3.1 (by omega)]
  dsimp only
  rw [numZ_app h4.1 (by omega)]
  dsimp only
  rw [← h5]
theorem putZ_app {p : Pu} (h : DP p) (t : List Int) : putZ (encP p ++ t) = (p, t) := by
  obtain ⟨h1, h2, h3, h4⟩ := h
  unfold putZ encP
  simp only [List.append_assoc]
  rw [numZ_app h1.1 (by omega)]
  dsimp only
  rw [takeZ_app h2]
  dsimp only
  rw [numZ_app h3.1 (by omega)]
  dsimp only
  rw [numZ_app h4.1 (by omega)]
theorem rowsZ_app {α : Type} {one : List Int → α × List Int} {e : α → List Int} {D : α → Prop} (ha : ∀ x, D x → ∀ t, one (e x ++ t) = (x, t)) : ∀ (l : List α), (∀ x ∈ l, D x) → ∀ t, rowsZ one l.length (l.flatMap e ++ t) = (l, t)
  | [], _, t => rfl
  | x :: l, h, t => by
    rw [List.length_cons, rowsZ, List.flatMap_cons, List.append_assoc, ha x (h x List.mem_cons_self)]
    dsimp only
    rw [rowsZ_app ha l fun y hy => h y (List.mem_cons_of_mem _ hy)]
theorem rowZ_app {α : Type} {one : List Int → α × List Int} {e : α → List Int} {D : α → Prop} (ha : ∀ x, D x → ∀ t, one (e x ++ t) = (x, t)) (l : List α) (h : ∀ x ∈ l, D x) (hn : l.length < 256) (t : List Int) : rowZ one (encRow e l ++ t) = (l, t) := by
  unfold rowZ encRow
  rw [List.append_assoc, numZ_app (by omega) (by omega)]
  dsimp only
  rw [Int.toNat_natCast]
  exact rowsZ_app ha l h t
theorem parseZ_app {o : OpR} (h : DO o) (t : List Int) : parseZ (enc o ++ t) = o := by
  obtain ⟨h1, h2, h3, h4, h5⟩ := h
  unfold parseZ enc
  rw [List.append_assoc, numZ_app h1.1 (by omega)]
  dsimp only
  by_cases k1 : o.kd = 1
  · obtain ⟨a1, a2, a3, a4, a5, a6, a7⟩ := h2 k1
    rw [if_pos k1, if_pos k1, List.append_assoc, rowZ_app (fun x hx t => freshZ_app hx t) o.news a6 a4]
    dsimp only
    rw [rowZ_app (fun x hx t => putZ_app hx t) o.puts a7 a5]
    dsimp only
    obtain ⟨kd, at_, n, sn, news, puts⟩ := o
    simp_all
  · rw [if_neg k1, if_neg k1]
    obtain ⟨b1, b2⟩ := h4 k1
    by_cases k2 : o.kd = 2
    · obtain ⟨a1, a2, a3⟩ := h3 k2
      rw [if_pos k2, if_pos k2, List.append_assoc, numZ_app a1.1 (by omega)]
      dsimp only
      rw [numZ_app a2.1 (by omega)]
      dsimp only
      obtain ⟨kd, at_, n, sn, news, puts⟩ := o
      simp_all
    · obtain ⟨a1, a2, a3, a4⟩ := h5 k1 k2
      rw [if_neg k2, if_neg k2, numZ_app a3 (by omega)]
      dsimp only
      obtain ⟨kd, at_, n, sn, news, puts⟩ := o
      simp_all
/-- What the document tells of bytes. -/
def decZ (b : List Int) : Option OpR := if rightB (parseZ b) = true ∧ enc (parseZ b) = b then some (parseZ b) else none
theorem freshZ_len (l : List Int) : (freshZ l).1.k.length = 32 := takeZ_len _ _
theorem putZ_len (l : List Int) : (putZ l).1.k.length = 32 := takeZ_len _ _
theorem rowsZ_all {α : Type} {one : List Int → α × List Int} {Q : α → Prop} (h : ∀ l, Q (one l).1) : ∀ n l, ∀ x ∈ (rowsZ one n l).1, Q x
  | 0, _, x, hx => by cases hx
  | n + 1, l, x, hx => by
    rw [rowsZ] at hx
    rcases List.mem_cons.1 hx with rfl | hx
    · exact h l
    · exact rowsZ_all h n _ x hx
theorem parseZ_ko (l : List Int) : KO (parseZ l) := by
  unfold parseZ
  dsimp only
  split
  · exact ⟨fun f hf => rowsZ_all (Q := fun f : Fr => f.k.length = 32) freshZ_len _ _ f hf, fun p hp => rowsZ_all (Q := fun p : Pu => p.k.length = 32) putZ_len _ _ p hp⟩
  · split
    · exact ⟨(fun f hf => by cases hf), fun p hp => by cases hp⟩
    · exact ⟨(fun f hf => by cases hf), fun p hp => by cases hp⟩
theorem decZ_dec {b : List Int} (hb : Byt b) : decZ b = dec b := by
  unfold decZ
  cases hd : dec b with
  | some o =>
    obtain ⟨h1, h2, h3⟩ := dec_some hd hb
    have e : parseZ b = o := by
      have := parseZ_app h3 []
      rw [List.append_nil, h2] at this
      exact this
    rw [e, if_pos ⟨h1, h2⟩]
  | none =>
    refine if_neg fun ⟨h1, h2⟩ => ?_
    have := dec_enc h1 (parseZ_ko b)
    rw [h2, hd] at this
    cases this
end Go.Proofs.YthdllbbjajddiaaGreatDoor
