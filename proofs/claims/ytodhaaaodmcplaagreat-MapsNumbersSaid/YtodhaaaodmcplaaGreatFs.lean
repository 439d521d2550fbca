/- Lists that lie apart, whose elements are structs of s cells each (marks: mk): words for them; plain laws. -/
import Derived.Test.YtodhaaaodmcplaaGreatSrow
import Derived.Test.YtodhaaaodmcplaaGreatMem
set_option linter.all false
namespace Go.Proofs.YtodhaaaodmcplaaGreat
open Go.RowKit
def FootS (K : Nat) (v : Nat → Value) (g : Nat) : Prop := ∃ j, j < K ∧ (v j).ownBlock = some g
def DistS (K : Nat) (v : Nat → Value) : Prop := ∀ j k, j < K → k < K → j ≠ k → ∀ g, (v j).ownBlock = some g → (v k).ownBlock ≠ some g
/-- Marks of s cells each. -/
structure Marks (s : Nat) (mk : Nat → Nat → List Value) : Prop where
  len : ∀ k, Wide s (mk k)
  one : ∀ k i, ∀ u ∈ mk k i, u.oneCell' = true
theorem spliceS_len {α : Type} (L ys : List α) (o : Nat) (h : o + ys.length ≤ L.length) : (splice L o ys).length = L.length := by
  unfold splice; simp only [List.length_append, List.length_take, List.length_drop]; omega
theorem spliceS_at {α : Type} (L ys : List α) (o : Nat) (h : o + ys.length ≤ L.length) (i : Nat) : (splice L o ys)[i]? = if i < o then L[i]? else if i < o + ys.length then ys[i - o]? else L[i]? := by
  unfold splice
  have hl : (L.take o).length = o := by rw [List.length_take]; omega
  by_cases h1 : i < o
  · rw [if_pos h1, List.getElem?_append_left (by omega), List.getElem?_take, if_pos h1]
  · rw [if_neg h1, List.getElem?_append_right (by omega), hl]
    by_cases h2 : i < o + ys.length
    · rw [if_pos h2, List.getElem?_append_left (by omega)]
    · rw [if_neg h2, List.getElem?_append_right (by omega), List.getElem?_drop]
      congr 1; omega
/-- One element anew. -/
theorem flatS_splice {s : Nat} {F : Nat → List Value} (hF : Wide s F) {ys : List Value} (hy : ys.length = s) {i n : Nat} (hi : i < n) : splice (flatS F n) (i * s) ys = flatS (fun x => if x = i then ys else F x) n := by
  have hG : Wide s (fun x => if x = i then ys else F x) := fun x => by
    show (if x = i then ys else F x).length = s
    split
    · exact hy
    · exact hF x
  have hm : (i + 1) * s ≤ n * s := Nat.mul_le_mul_right s hi
  rw [Nat.add_mul, Nat.one_mul] at hm
  have hfit : i * s + ys.length ≤ (flatS F n).length := by rw [flatS_len hF, hy]; exact hm
  apply List.ext_getElem?
  intro k
  rw [spliceS_at _ _ _ hfit, hy]
  by_cases hk : k < n * s
  · have hs : 0 < s := by
      rcases Nat.eq_zero_or_pos s with h | h
      · rw [h, Nat.mul_zero] at hk; omega
      · exact h
    obtain ⟨j, r, hr, rfl⟩ : ∃ j r, r < s ∧ k = j * s + r := ⟨k / s, k % s, Nat.mod_lt _ hs, by rw [Nat.mul_comm]; exact (Nat.div_add_mod k s).symm⟩
    have hj : j < n := by
      rcases Nat.lt_or_ge j n with h | h
      · exact h
      · have := Nat.mul_le_mul_right s h; omega
    rw [flatS_at hF hr hj, flatS_at hG hr hj]
    show _ = (if j = i then ys else F j)[r]?
    rcases Nat.lt_trichotomy j i with h | h | h
    · have h2 := Nat.mul_le_mul_right s (show j + 1 ≤ i from h)
      rw [Nat.add_mul, Nat.one_mul] at h2
      rw [if_pos (by omega), if_neg (by omega)]
    · subst h
      rw [if_neg (by omega), if_pos (by omega), if_pos rfl, Nat.add_sub_cancel_left]
    · have h2 := Nat.mul_le_mul_right s (show i + 1 ≤ j from h)
      rw [Nat.add_mul, Nat.one_mul] at h2
      rw [if_neg (by omega), if_neg (by omega), if_neg (by omega)]
  · rw [if_neg (by omega), if_neg (by omega), List.getElem?_eq_none (by rw [flatS_len hF]; omega), List.getElem?_eq_none (by rw [flatS_len hG]; omega)]
theorem own_put {w w' : World} {base g n c s i : Nat} {e : TypeId} {xs ys : List Value} {cur : Array Value} (h : w.ownsRow base e s (.slice (some ⟨g, 0, none⟩) n c) n xs) (hc : w.heap[g]? = some (.cells cur e (0, 0))) (hi : i < n) (hy : ys.length = s)
    (hw : w'.heap[g]? = some (.cells (splice cur.toList (i * s) ys).toArray e (0, 0))) : w'.ownsRow base e s (.slice (some ⟨g, 0, none⟩) n c) n (splice xs (i * s) ys) := by
  have hl := h.1
  have hm : (i + 1) * s ≤ n * s := Nat.mul_le_mul_right s hi
  rw [Nat.add_mul, Nat.one_mul] at hm
  rcases h.2 with ⟨h1, _⟩ | ⟨g2, cap2, cur2, h1, h2, h3, h4, h5, h6, h7⟩
  · simp at h1
  · injection h1 with h1 h8 h9
    injection h1 with h1
    injection h1 with h1
    subst h1 h9
    rw [hc] at h3
    injection h3 with h3
    injection h3 with h3
    subst h3
    have hcl : n * s ≤ cur.toList.length := by rw [Array.length_toList, h6]; exact Nat.mul_le_mul_right _ h4
    refine ⟨by rw [spliceS_len _ _ _ (by omega)]; exact hl, .inr ⟨g, c, _, rfl, h2, hw, h4, h5, ?_, ?_⟩⟩
    · simp only [List.size_toArray]
      rw [spliceS_len _ _ _ (by omega), Array.length_toList, h6]
    · apply List.ext_getElem?
      intro k
      show (List.take (n * s) (splice cur.toList (i * s) ys))[k]? = _
      rw [List.getElem?_take, spliceS_at _ _ _ (by omega), spliceS_at _ _ _ (by omega), ← h7, List.getElem?_take]
      by_cases hk : k < n * s
      · rw [if_pos hk, if_pos hk]
      · rw [if_neg hk, if_neg (by omega), if_neg (by omega), if_neg hk]
/-- A row whose first m elements bear the marks of list j. -/
def RowAtS (e : TypeId) (s : Nat) (mk : Nat → Nat → List Value) (w : World) (base : Nat) (v : Value) (n j m : Nat) : Prop := ∃ F : Nat → List Value, Wide s F ∧ (∀ i, ∀ u ∈ F i, u.oneCell' = true) ∧ (∀ i, i < m → F i = mk j i) ∧ w.ownsRow base e s v n (flatS F n)
section
variable {e : TypeId} {s : Nat} {mk : Nat → Nat → List Value}
theorem RowAtS.full {w : World} {base : Nat} {v : Value} {n j m : Nat} (h : RowAtS e s mk w base v n j m) (hm : n ≤ m) : w.ownsRow base e s v n (flatS (mk j) n) := by
  obtain ⟨F, _, _, hf, ho⟩ := h
  rwa [flatS_congr (G := mk j) fun i hi => hf i (by omega)] at ho
theorem RowAtS.keeps {S : Nat → Prop} {w w' : World} {base : Nat} {v : Value} {n j m : Nat} (h : RowAtS e s mk w base v n j m) (hk : Keeps S w w') (hS : ∀ g, v.ownBlock = some g → ¬ S g) : RowAtS e s mk w' base v n j m := by
  obtain ⟨F, h1, h2, hf, ho⟩ := h
  exact ⟨F, h1, h2, hf, hk.row ho hS⟩
theorem RowAtS.less {w : World} {base : Nat} {v : Value} {n j m m' : Nat} (h : RowAtS e s mk w base v n j m) (hm : m' ≤ m) : RowAtS e s mk w base v n j m' := by
  obtain ⟨F, h1, h2, hf, ho⟩ := h
  exact ⟨F, h1, h2, fun i hi => hf i (by omega), ho⟩
theorem RowAtS.store {w w' : World} {base g n c j i : Nat} {cur : Array Value} (h : RowAtS e s mk w base (.slice (some ⟨g, 0, none⟩) n c) n j i) (M : Marks s mk) (hi : i < n) (hc : w.heap[g]? = some (.cells cur e (0, 0)))
    (hw : w'.heap[g]? = some (.cells (splice cur.toList (i * s) (mk j i)).toArray e (0, 0))) : RowAtS e s mk w' base (.slice (some ⟨g, 0, none⟩) n c) n j (i + 1) := by
  obtain ⟨F, h1, h2, hf, ho⟩ := h
  have hp := own_put ho hc hi (M.len j i) hw
  rw [flatS_splice h1 (M.len j i) hi] at hp
  refine ⟨_, fun x => ?_, fun x u hu => ?_, fun x hx => ?_, hp⟩
  · show (if x = i then mk j i else F x).length = s
    split
    · exact M.len j i
    · exact h1 x
  · have hu' : u ∈ (if x = i then mk j i else F x) := hu
    split at hu'
    · exact M.one j i u hu'
    · exact h2 x u hu'
  · show (if x = i then mk j i else F x) = mk j x
    split
    · rename_i e; rw [e]
    · exact hf x (by omega)
/-- How far the marking has come: list k, element i. -/
def progS (n : Nat → Nat) (k i j : Nat) : Nat := if j < k then n j else if j = k then i else 0
theorem progS_same (n : Nat → Nat) (k i : Nat) : progS n k i k = i := by simp [progS]
theorem progS_other (n : Nat → Nat) {k i i' j : Nat} (h : j ≠ k) : progS n k i j = progS n k i' j := by simp [progS, h]
theorem progS_next (n : Nat → Nat) (k j : Nat) : progS n (k + 1) 0 j = progS n k (n k) j := by
  unfold progS
  by_cases h : j < k
  · rw [if_pos h, if_pos (by omega)]
  · by_cases e : j = k
    · subst e; simp
    · rw [if_neg (show ¬ j < k + 1 by omega), if_neg h, if_neg e]; simp
theorem progS_end (n : Nat → Nat) {K j : Nat} (h : j < K) : progS n K 0 j = n j := by simp [progS, h]
/-- The lists while they are marked. -/
structure MarkS (e : TypeId) (s : Nat) (mk : Nat → Nat → List Value) (w0 w : World) (base K : Nat) (v : Nat → Value) (n : Nat → Nat) (k i : Nat) : Prop where
  kept : Keeps (FootS K v) w0 w
  rows : ∀ j, j < K → RowAtS e s mk w base (v j) (n j) j (progS n k i j)
theorem MarkS.next {w0 w : World} {base K : Nat} {v : Nat → Value} {n : Nat → Nat} {k : Nat} (h : MarkS e s mk w0 w base K v n k (n k)) : MarkS e s mk w0 w base K v n (k + 1) 0 :=
  ⟨h.kept, fun j hj => by rw [progS_next]; exact h.rows j hj⟩
theorem MarkS.go {w0 w w' : World} {base K : Nat} {v : Nat → Value} {n : Nat → Nat} {k i : Nat} (h : MarkS e s mk w0 w base K v n k i) (hb : Below w.heap.size w w') : MarkS e s mk w0 w' base K v n k i :=
  ⟨h.kept.trans (Keeps.fresh (S := FootS K v) hb) fun _ _ h => h, fun j hj => (h.rows j hj).keeps (Keeps.fresh (S := fun _ => False) hb) fun _ _ h => h⟩
theorem MarkS.store {w0 w w' : World} {base K : Nat} {v : Nat → Value} {n : Nat → Nat} {k i g m c : Nat} {cur : Array Value} (h : MarkS e s mk w0 w base K v n k i) (M : Marks s mk) (hd : DistS K v) (hk : k < K) (hv : v k = .slice (some ⟨g, 0, none⟩) m c) (hm : m = n k) (hi : i < m)
    (hc : w.heap[g]? = some (.cells cur e (0, 0))) (hw : w'.heap[g]? = some (.cells (splice cur.toList (i * s) (mk k i)).toArray e (0, 0))) (hkp : Keeps (fun x => x = g) w w') : MarkS e s mk w0 w' base K v n k (i + 1) := by
  subst hm
  have hb : (v k).ownBlock = some g := by rw [hv]; rfl
  refine ⟨h.kept.trans hkp fun x _ e => ⟨k, hk, by rw [e]; exact hb⟩, fun j hj => ?_⟩
  by_cases e1 : j = k
  · subst e1
    have h1 := h.rows j hj
    rw [progS_same, hv] at h1
    rw [progS_same, hv]
    exact h1.store M hi hc hw
  · rw [progS_other n (i' := i) e1]
    exact (h.rows j hj).keeps hkp fun x hx e2 => hd j k hj hk e1 x hx (by rw [e2]; exact hb)
/-- A row's first elements are a row. -/
theorem row_prefixS {w : World} {base : Nat} {e : TypeId} {size : Nat} {A : Option Addr} {n m c : Nat} {xs ys : List Value} (h : w.ownsRow base e size (.slice A (n + m) c) (n + m) (xs ++ ys)) (hx : xs.length = n * size) : w.ownsRow base e size (.slice A n c) n xs := by
  refine ⟨hx, ?_⟩
  rcases h.2 with ⟨h0, h1⟩ | ⟨g, cap, cur, h0, hb, hg, hnc, hcm, hcs, htake⟩
  · injection h0 with e1 e2 e3
    subst e1 e3
    exact .inl ⟨by rw [show n = 0 by omega], by omega⟩
  · injection h0 with e1 e2 e3
    subst e1 e3
    refine .inr ⟨g, c, cur, rfl, hb, hg, by omega, hcm, hcs, ?_⟩
    have h2 := congrArg (List.take (n * size)) htake
    have h3 : List.take (n * size) (xs ++ ys) = xs := by rw [List.take_append_of_le_length (by omega), List.take_of_length_le (by omega)]
    rw [List.take_take, Nat.min_eq_left (Nat.mul_le_mul_right _ (by omega)), h3] at h2
    exact h2
theorem row_nilS {w : World} {base : Nat} {e : TypeId} {size : Nat} {A : Option Addr} {n c : Nat} {xs : List Value} (h : w.ownsRow base e size (.slice A n c) n xs) : A = none → n = 0 ∧ c = 0 := by
  rcases h.2 with ⟨h0, _⟩ | ⟨g, cap, cur, h0, _⟩
  · injection h0 with e1 e2 e3
    exact fun _ => ⟨e2, e3⟩
  · injection h0 with e1 e2 e3
    intro e; rw [e] at e1; cases e1
theorem rows_neS {w : World} {base base' size size' n n' : Nat} {e e' : TypeId} {v v' : Value} {xs xs' : List Value} (h : w.ownsRow base e size v n xs) (h' : w.ownsRow base' e' size' v' n' xs') (ht : e ≠ e') (k : Nat) (hk : v.ownBlock = some k) : v'.ownBlock ≠ some k := by
  rcases h.2 with ⟨rfl, _⟩ | ⟨g, cap, cur, rfl, _, hg, _⟩
  · simp [Value.ownBlock] at hk
  · have e1 : g = k := by simpa [Value.ownBlock] using hk
    subst e1
    rcases h'.2 with ⟨rfl, _⟩ | ⟨g', cap', cur', rfl, _, hg', _⟩
    · simp [Value.ownBlock]
    · intro e2
      have e3 : g' = g := by simpa [Value.ownBlock] using e2
      subst e3
      rw [hg] at hg'
      injection hg' with hg'
      injection hg' with _ e4
      exact ht e4
theorem row_shapeS {w : World} {base : Nat} {e : TypeId} {size : Nat} {v : Value} {n : Nat} {xs : List Value} (h : w.ownsRow base e size v n xs) : ∃ A c, v = .slice A n c := by
  rcases h.2 with ⟨rfl, rfl⟩ | ⟨g, cap, cur, rfl, _⟩
  · exact ⟨_, _, rfl⟩
  · exact ⟨_, _, rfl⟩
theorem row_le_capS {w : World} {base : Nat} {e : TypeId} {size : Nat} {A : Option Addr} {n c : Nat} {xs : List Value} (h : w.ownsRow base e size (.slice A n c) n xs) : n ≤ c := by
  rcases h.2 with ⟨h0, _⟩ | ⟨g, cap, cur, h0, _, _, hnc, _⟩
  · injection h0 with e1 e2 e3
    omega
  · injection h0 with e1 e2 e3
    omega
theorem row_someS {w : World} {base : Nat} {e : TypeId} {size : Nat} {A : Option Addr} {n c : Nat} {xs : List Value} (h : w.ownsRow base e size (.slice A n c) n xs) (hc : 0 < c) : ∃ g, A = some ⟨g, 0, none⟩ := by
  rcases h.2 with ⟨h0, _⟩ | ⟨g, cap, cur, h0, _⟩
  · injection h0 with e1 e2 e3
    omega
  · injection h0 with e1 e2 e3
    exact ⟨g, e1⟩
/-- A list while it grows behind: what it is now, and where. -/
structure GrowS (e : TypeId) (s : Nat) (mk : Nat → Nat → List Value) (ws w : World) (base : Nat) (A : Option Addr) (n c k i : Nat) (gv : Value) : Prop where
  kept : Keeps (fun g => (Value.slice A n c).ownBlock = some g) ws w
  old : w.ownsRow base e s (.slice A n c) n (flatS (mk k) n)
  new : w.ownsRow base e s gv (n + i) (flatS (mk k) (n + i))
  place : gv = .slice A (n + i) c ∨ ∀ b, gv.ownBlock = some b → ws.heap.size ≤ b
theorem GrowS.go {ws w w' : World} {base : Nat} {A : Option Addr} {n c k i : Nat} {gv : Value} (h : GrowS e s mk ws w base A n c k i gv) (hb : Below w.heap.size w w') : GrowS e s mk ws w' base A n c k i gv :=
  ⟨h.kept.trans (Keeps.fresh (S := fun _ => False) hb) fun _ _ h => h.elim, (Keeps.fresh (S := fun _ => False) hb).row h.old fun _ _ h => h, (Keeps.fresh (S := fun _ => False) hb).row h.new fun _ _ h => h, h.place⟩
theorem flatS_split (F : Nat → List Value) (n : Nat) : ∀ m, flatS F (n + m) = flatS F n ++ flatS (fun x => F (n + x)) m
  | 0 => by simp [flatS]
  | m + 1 => by rw [← Nat.add_assoc, flatS, flatS, flatS_split F n m, List.append_assoc]
theorem GrowS.fits {ws w w' : World} {base g n c k i : Nat} {o : Obj} (M : Marks s mk) (h : GrowS e s mk ws w base (some ⟨g, 0, none⟩) n c k i (.slice (some ⟨g, 0, none⟩) (n + i) c))
    (hown : w'.ownsRow base e s (.slice (some ⟨g, 0, none⟩) (n + i + 1) c) (n + i + 1) (flatS (mk k) (n + i) ++ mk k (n + i))) (hg : (w.alloc o).grownBy w' (some g)) :
    GrowS e s mk ws w' base (some ⟨g, 0, none⟩) n c k (i + 1) (.slice (some ⟨g, 0, none⟩) (n + i + 1) c) := by
  refine ⟨h.kept.trans ((Keeps.alloc _ w o).trans (Keeps.grown hg fun _ e => e) fun _ _ h => h) fun x _ hx => hx, ?_, hown, .inl rfl⟩
  have e3 : flatS (mk k) (n + (i + 1)) = flatS (mk k) (n + i) ++ mk k (n + i) := rfl
  rw [← e3, flatS_split] at hown
  exact row_prefixS (m := i + 1) hown (flatS_len (M.len k) n)
theorem GrowS.moves {ws w w' : World} {base n c k i : Nat} {A : Option Addr} {o : Obj} {gv gv' : Value} (h : GrowS e s mk ws w base A n c k i gv) (hb : base ≤ w.heap.size) (hsz : ws.heap.size ≤ w.heap.size)
    (hown : w'.ownsRow (w.alloc o).heap.size e s gv' (n + i + 1) (flatS (mk k) (n + i) ++ mk k (n + i))) (hg : (w.alloc o).grownBy w' none) :
    GrowS e s mk ws w' base A n c k (i + 1) gv' := by
  have hk : Keeps (fun _ => False) w w' := (Keeps.alloc _ w o).trans (Keeps.grown hg fun _ e => by cases e) fun _ _ h => h
  refine ⟨h.kept.trans hk fun x _ hx => hx.elim, hk.row h.old fun _ _ h => h, row_more hown (by simp; omega), .inr fun b hbk => ?_⟩
  have := (row_lt hown hbk).1
  simp at this
  omega
theorem GrowS.lies {ws w w' : World} {base n c k i g cap : Nat} {A : Option Addr} {o : Obj} {gv : Value} (h : GrowS e s mk ws w base A n c k i gv) (hsz : ws.heap.size ≤ w.heap.size) (hpl : ∀ b, gv.ownBlock = some b → ws.heap.size ≤ b) (hAw : ∀ b, (Value.slice A n c).ownBlock = some b → b < ws.heap.size)
    (hown : w'.ownsRow base e s (.slice (some ⟨g, 0, none⟩) (n + i + 1) cap) (n + i + 1) (flatS (mk k) (n + i) ++ mk k (n + i))) (hg : (w.alloc o).grownBy w' gv.ownBlock) (hat : gv.ownBlock = some g ∨ g = (w.alloc o).heap.size) :
    GrowS e s mk ws w' base A n c k (i + 1) (.slice (some ⟨g, 0, none⟩) (n + i + 1) cap) := by
  have hk : Keeps (fun x => gv.ownBlock = some x) w w' := (Keeps.alloc _ w o).trans (Keeps.grown hg fun _ e => e) fun _ _ h => h
  refine ⟨?_, hk.row h.old fun b hb hb2 => ?_, hown, .inr fun b hbk => ?_⟩
  · exact h.kept.trans hk fun x hx hx2 => absurd (hpl x hx2) (by omega)
  · have h1 := hAw b hb
    have h2 := hpl b hb2
    omega
  · have : some g = some b := hbk
    injection this with this
    subst this
    rcases hat with h1 | h1
    · exact hpl _ h1
    · rw [h1]; simp; omega
/-- A list of lists: one cell turned. -/
theorem map_setS {n k : Nat} (f : Nat → Value) (u : Value) : ((List.range n).map f).set k u = (List.range n).map fun x => if x = k then u else f x := by
  apply List.ext_getElem?
  intro x
  rw [List.getElem?_set, List.getElem?_map, List.getElem?_map]
  by_cases hx : k = x
  · subst hx
    by_cases hk : k < n <;> simp [hk]
  · by_cases hxn : x < n
    · simp [hx, hxn, Ne.symm hx]
    · simp [hx, hxn]
/-- Lists marked; the first k grown. L: the type of the lists. -/
structure FlatsS (e L : TypeId) (s : Nat) (mk : Nat → Nat → List Value) (w0 w : World) (base K : Nat) (v : Nat → Value) (n : Nat → Nat) (H : Nat) (P : Nat → Nat) (k : Nat) (G : Nat → Value) : Prop where
  kept : Keeps (FootS K v) w0 w
  rows : ∀ j, j < K → w.ownsRow base e s (v j) (n j) (flatS (mk j) (n j))
  gs : w.ownsRow base L 1 (.slice (some ⟨H, 0, none⟩) K K) K ((List.range K).map G)
  grown : ∀ j, j < k → (∃ F : Nat → List Value, Wide s F ∧ w.ownsRow base e s (G j) (n j + 64) (flatS F (n j + 64)) ∧ ∀ i, i < P j → F i = mk j i) ∧ ∀ b, (G j).ownBlock = some b → (v j).ownBlock = some b ∨ H < b
  low : w0.heap.size ≤ H
  vlt : ∀ j, j < K → ∀ b, (v j).ownBlock = some b → b < H
variable {L : TypeId}
theorem FlatsS.Hlt {w0 w : World} {base K : Nat} {v : Nat → Value} {n : Nat → Nat} {H : Nat} {P : Nat → Nat} {k : Nat} {G : Nat → Value} (h : FlatsS e L s mk w0 w base K v n H P k G) : H < w.heap.size := (row_lt h.gs (k := H) rfl).2
theorem FlatsS.go {w0 w w' : World} {base K : Nat} {v : Nat → Value} {n : Nat → Nat} {H : Nat} {P : Nat → Nat} {k : Nat} {G : Nat → Value} (h : FlatsS e L s mk w0 w base K v n H P k G) (hb : Below w.heap.size w w') : FlatsS e L s mk w0 w' base K v n H P k G :=
  ⟨h.kept.trans (Keeps.fresh (S := FootS K v) hb) fun _ _ h => h, fun j hj => (Keeps.fresh (S := fun _ => False) hb).row (h.rows j hj) fun _ _ h => h, (Keeps.fresh (S := fun _ => False) hb).row h.gs fun _ _ h => h,
    fun j hj => ⟨let ⟨F, h0, h1, h2⟩ := (h.grown j hj).1; ⟨F, h0, (Keeps.fresh (S := fun _ => False) hb).row h1 fun _ _ h => h, h2⟩, (h.grown j hj).2⟩, h.low, h.vlt⟩
theorem FlatsS.reset {w0 w : World} {base K : Nat} {v : Nat → Value} {n : Nat → Nat} {H : Nat} {P P' : Nat → Nat} {k : Nat} {G : Nat → Value} (h : FlatsS e L s mk w0 w base K v n H P k G) : FlatsS e L s mk w0 w base K v n H P' 0 G :=
  ⟨h.kept, h.rows, h.gs, fun j hj => absurd hj (by omega), h.low, h.vlt⟩
theorem FlatsS.done {w0 wk w' : World} {base K : Nat} {v : Nat → Value} {n : Nat → Nat} {H : Nat} {P : Nat → Nat} {k : Nat} {G : Nat → Value} {gv : Value} (hL : e ≠ L) (h : FlatsS e L s mk w0 wk base K v n H P k G) (hd : DistS K v) (hk : k < K)
    (hkeep : Keeps (fun g => (v k).ownBlock = some g) wk w') (hold : w'.ownsRow base e s (v k) (n k) (flatS (mk k) (n k)))
    (hnew : ∃ F : Nat → List Value, Wide s F ∧ w'.ownsRow base e s gv (n k + 64) (flatS F (n k + 64)) ∧ ∀ i, i < P k → F i = mk k i) (hplace : ∀ b, gv.ownBlock = some b → (v k).ownBlock = some b ∨ wk.heap.size ≤ b) :
    FlatsS e L s mk w0 (w'.setCell ⟨H, k, none⟩ gv) base K v n H P (k + 1) (fun j => if j = k then gv else G j) := by
  have hst : Keeps (fun x => x = H) w' (w'.setCell ⟨H, k, none⟩ gv) := Keeps.setCell (fun x => x = H) w' ⟨H, k, none⟩ _ rfl
  have hgs := hkeep.row h.gs fun x hx hx2 => rows_neS (h.rows k hk) h.gs hL x hx2 hx
  have hrow : ∀ j, j < K → w'.ownsRow base e s (v j) (n j) (flatS (mk j) (n j)) := fun j hj => by
    by_cases e1 : j = k
    · subst e1; exact hold
    · exact hkeep.row (h.rows j hj) fun x hx hx2 => hd j k hj hk e1 x hx hx2
  have hH : ∀ {u : Value} {m : Nat} {xs : List Value}, w'.ownsRow base e s u m xs → ∀ x, u.ownBlock = some x → ¬ x = H := fun ho x hx e1 => rows_neS ho hgs hL x hx (by rw [e1]; rfl)
  refine ⟨(h.kept.trans hkeep fun x _ hx => ⟨k, hk, hx⟩).trans hst fun x hx e1 => absurd hx (by have := h.low; omega), fun j hj => hst.row (hrow j hj) (hH (hrow j hj)), ?_, fun j hj => ?_, h.low, h.vlt⟩
  · have := (hgs.stored k gv).1
    rwa [map_setS] at this
  · by_cases e1 : j = k
    · subst e1
      rw [if_pos rfl]
      obtain ⟨F, h0, h1, h2⟩ := hnew
      exact ⟨⟨F, h0, hst.row h1 (hH h1), h2⟩, fun b hb => (hplace b hb).imp id fun h3 => Nat.lt_of_lt_of_le h.Hlt h3⟩
    · rw [if_neg e1]
      obtain ⟨⟨F, h0, h1, h2⟩, h3⟩ := h.grown j (by omega)
      have h4 := hkeep.row h1 fun x hx hx2 => by
        rcases h3 x hx with h5 | h5
        · exact hd j k (by omega) hk e1 x h5 hx2
        · have := h.vlt k hk x hx2; omega
      exact ⟨⟨F, h0, hst.row h4 (hH h4), h2⟩, h3⟩
/-- Two rows, one behind the other. -/
theorem flatS_join (F G : Nat → List Value) (K : Nat) : ∀ L, flatS F K ++ flatS G L = flatS (fun i => if i < K then F i else G (i - K)) (K + L)
  | 0 => by
    rw [Nat.add_zero]
    show flatS F K ++ [] = _
    rw [List.append_nil]
    exact flatS_congr fun j hj => by rw [if_pos hj]
  | L + 1 => by
    rw [← Nat.add_assoc, flatS, flatS, ← List.append_assoc, flatS_join F G K L, if_neg (by omega), Nat.add_sub_cancel_left]
end
section
variable {P : Program}
/-- A struct goes into a block known whole. -/
theorem wp_store_segK {op : Oper} {a : Act} {w : World} {K : Act → World → Prop} {Q : Exit → Act → World → Prop} (ty : TypeId) (x y : Operand) (ho : op.op = .store ty x y) (b o : Nat) (hx : a.eval x = .pointer (some ⟨b, o, none⟩)) (vs : List Value) (hy : a.eval y = .agg vs.toArray)
    (cur : List Value) (t : TypeId) (hb : w.heap[b]? = some (.cells cur.toArray t (0, 0))) (hs : (P.info? ty).map (·.size) = some vs.length) (hfit : o + vs.length ≤ cur.length) (h1 : ∀ v ∈ vs, v.oneCell' = true)
    (h : ∀ w', w'.heap[b]? = some (.cells (splice cur o vs).toArray t (0, 0)) → Keeps (fun k => k = b) w w' → w'.heap.size = w.heap.size → K (a.put op.dst undef) w') : op.wp P a w K Q := by
  unfold Oper.wp execOp
  simp only [ho, hx, hy, Instr.storeAt, Instr.sureAddr, Sem.run_bind, Sem.run_pure, Result.andThen_ok, run_storeVar_seg w b o ty vs cur t hb hfit hs h1]
  exact h _ (setRow_heap w b _ _ t _ hb) (Keeps.setRow w b _) (by simp)
theorem wpList_store_segK {ops : Array Oper} {rest : List Oper} {op : Oper} {a : Act} {w : World} {Q : Exit → Act → World → Prop} (hg : Region.wanted op (yielded ops a.tmps) = true) (ty : TypeId) (x y : Operand) (ho : op.op = .store ty x y)
    (b o : Nat) (hx : a.eval x = .pointer (some ⟨b, o, none⟩)) (vs : List Value) (hy : a.eval y = .agg vs.toArray) (cur : List Value) (t : TypeId) (hb : w.heap[b]? = some (.cells cur.toArray t (0, 0)))
    (hs : (P.info? ty).map (·.size) = some vs.length) (hfit : o + vs.length ≤ cur.length) (h1 : ∀ v ∈ vs, v.oneCell' = true) (hd : op.dst = none)
    (h : ∀ w', w'.heap[b]? = some (.cells (splice cur o vs).toArray t (0, 0)) → Keeps (fun k => k = b) w w' → w'.heap.size = w.heap.size → wpList P ops Q rest a w') : wpList P ops Q (op :: rest) a w :=
  BigFrame.wpList_want hg fun _ hK => wp_store_segK ty x y ho b o hx vs hy cur t hb hs hfit h1 fun w' h2 h3 h4 => hK _ _ (by rw [hd]; exact h w' h2 h3 h4)
end
/-- The block of a row that the call owns. -/
theorem row_blk {w : World} {base : Nat} {e : TypeId} {s : Nat} {g n c : Nat} {xs : List Value} (h : w.ownsRow base e s (.slice (some ⟨g, 0, none⟩) n c) n xs) : ∃ cur : List Value, w.heap[g]? = some (.cells cur.toArray e (0, 0)) ∧ n * s ≤ cur.length := by
  rcases h.2 with ⟨h1, _⟩ | ⟨g2, cap2, cur2, h1, h2, h3, h4, h5, h6, h7⟩
  · simp at h1
  · injection h1 with h1 h8 h9
    injection h1 with h1
    injection h1 with h1
    subst h1
    exact ⟨cur2.toList, by simpa using h3, by rw [Array.length_toList, h6]; exact Nat.mul_le_mul_right _ h4⟩
end Go.Proofs.YtodhaaaodmcplaaGreat
