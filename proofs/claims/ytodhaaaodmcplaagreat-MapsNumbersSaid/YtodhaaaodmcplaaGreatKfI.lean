/- Lists that lie apart (one cell an element, numbers): words for them; plain laws. -/
import Derived.Test.YtodhaaaodmcplaaGreatKi
import Derived.Laws.MakeOwn
import Derived.ArgAppend
set_option linter.all false
namespace Go.Proofs.YtodhaaaodmcplaaGreat
open Go.RowKit
/-- The element with a mark. -/
def mkvI (k i : Nat) : Value := .int .i64 (mkI k i : Nat)
theorem mkvI_one (k i : Nat) : (mkvI k i).oneCell' = true := rfl
theorem markRowI_eq (k m : Nat) : markRowI k m = (List.range m).map (mkvI k) := rfl
def FootI (K : Nat) (v : Nat → Value) (g : Nat) : Prop := ∃ j, j < K ∧ (v j).ownBlock = some g
def DistI (K : Nat) (v : Nat → Value) : Prop := ∀ j k, j < K → k < K → j ≠ k → ∀ g, (v j).ownBlock = some g → (v k).ownBlock ≠ some g
/-- A row whose first m elements bear the marks of list j. -/
def RowAtI (w : World) (base : Nat) (v : Value) (n j m : Nat) : Prop := ∃ f : Nat → Value, (∀ i, i < m → f i = mkvI j i) ∧ (∀ i, (f i).oneCell' = true) ∧ w.ownsRow base 3 1 v n ((List.range n).map f)
theorem RowAtI.full {w : World} {base : Nat} {v : Value} {n j m : Nat} (h : RowAtI w base v n j m) (hm : n ≤ m) : w.ownsRow base 3 1 v n (markRowI j n) := by
  obtain ⟨f, hf, _, ho⟩ := h
  have e : (List.range n).map f = markRowI j n := List.map_congr_left fun i hi => hf i (Nat.lt_of_lt_of_le (List.mem_range.1 hi) hm)
  rwa [e] at ho
theorem RowAtI.keeps {S : Nat → Prop} {w w' : World} {base : Nat} {v : Value} {n j m : Nat} (h : RowAtI w base v n j m) (hk : Keeps S w w') (hS : ∀ g, v.ownBlock = some g → ¬ S g) : RowAtI w' base v n j m := by
  obtain ⟨f, hf, h1, ho⟩ := h
  exact ⟨f, hf, h1, hk.row ho hS⟩
theorem RowAtI.less {w : World} {base : Nat} {v : Value} {n j m m' : Nat} (h : RowAtI w base v n j m) (hm : m' ≤ m) : RowAtI w base v n j m' := by
  obtain ⟨f, hf, h1, ho⟩ := h
  exact ⟨f, fun i hi => hf i (Nat.lt_of_lt_of_le hi hm), h1, ho⟩
theorem RowAtI.store {w : World} {base g n c j i : Nat} (h : RowAtI w base (.slice (some ⟨g, 0, none⟩) n c) n j i) (hi : i < n) : RowAtI (w.setCell ⟨g, i, none⟩ (mkvI j i)) base (.slice (some ⟨g, 0, none⟩) n c) n j (i + 1) := by
  obtain ⟨f, hf, h1, ho⟩ := h
  refine ⟨fun x => if x = i then mkvI j i else f x, fun x hx => ?_, fun x => ?_, ?_⟩
  · show (if x = i then mkvI j i else f x) = mkvI j x
    by_cases e : x = i
    · rw [if_pos e, e]
    · rw [if_neg e]; exact hf x (by omega)
  · show (if x = i then mkvI j i else f x).oneCell' = true
    split
    · rfl
    · exact h1 x
  · have hs := (ho.stored i (mkvI j i)).1
    have e : ((List.range n).map f).set i (mkvI j i) = (List.range n).map fun x => if x = i then mkvI j i else f x := by
      apply List.ext_getElem?
      intro x
      rw [List.getElem?_set, List.getElem?_map, List.getElem?_map]
      by_cases hx : i = x
      · subst hx
        simp [hi]
      · by_cases hxn : x < n
        · simp [hx, hxn, Ne.symm hx]
        · simp [hx, hxn]
    rwa [e] at hs
/-- How far the marking has come: list k, element i. -/
def progI (n : Nat → Nat) (k i j : Nat) : Nat := if j < k then n j else if j = k then i else 0
theorem progI_same (n : Nat → Nat) (k i : Nat) : progI n k i k = i := by simp [progI]
theorem progI_other (n : Nat → Nat) {k i i' j : Nat} (h : j ≠ k) : progI n k i j = progI n k i' j := by simp [progI, h]
theorem progI_next (n : Nat → Nat) (k j : Nat) : progI n (k + 1) 0 j = progI n k (n k) j := by
  unfold progI
  by_cases h : j < k
  · rw [if_pos h, if_pos (by omega)]
  · by_cases e : j = k
    · subst e; simp
    · rw [if_neg (show ¬ j < k + 1 by omega), if_neg h, if_neg e]; simp
theorem progI_end (n : Nat → Nat) {K j : Nat} (h : j < K) : progI n K 0 j = n j := by simp [progI, h]
/-- The lists while they are marked. -/
structure MarkI (w0 w : World) (base K : Nat) (v : Nat → Value) (n : Nat → Nat) (k i : Nat) : Prop where
  kept : Keeps (FootI K v) w0 w
  rows : ∀ j, j < K → RowAtI w base (v j) (n j) j (progI n k i j)
theorem MarkI.next {w0 w : World} {base K : Nat} {v : Nat → Value} {n : Nat → Nat} {k : Nat} (h : MarkI w0 w base K v n k (n k)) : MarkI w0 w base K v n (k + 1) 0 :=
  ⟨h.kept, fun j hj => by rw [progI_next]; exact h.rows j hj⟩
theorem MarkI.store {w0 w : World} {base K : Nat} {v : Nat → Value} {n : Nat → Nat} {k i g m c : Nat} (h : MarkI w0 w base K v n k i) (hd : DistI K v) (hk : k < K) (hv : v k = .slice (some ⟨g, 0, none⟩) m c) (hm : m = n k) (hi : i < m) :
    MarkI w0 (w.setCell ⟨g, i, none⟩ (mkvI k i)) base K v n k (i + 1) := by
  subst hm
  have hb : (v k).ownBlock = some g := by rw [hv]; rfl
  have hst : Keeps (fun x => x = g) w (w.setCell ⟨g, i, none⟩ (mkvI k i)) := Keeps.setCell (fun x => x = g) w ⟨g, i, none⟩ _ rfl
  refine ⟨h.kept.trans hst fun x _ e => ⟨k, hk, by rw [e]; exact hb⟩, fun j hj => ?_⟩
  by_cases e : j = k
  · subst e
    have h1 := h.rows j hj
    rw [progI_same, hv] at h1
    rw [progI_same, hv]
    exact h1.store hi
  · rw [progI_other n (i' := i) e]
    exact (h.rows j hj).keeps hst fun x hx e2 => hd j k hj hk e x hx (by rw [e2]; exact hb)
/-- A row's first elements are a row. -/
theorem row_prefixI {w : World} {base : Nat} {e : TypeId} {size : Nat} {A : Option Addr} {n m c : Nat} {xs ys : List Value} (h : w.ownsRow base e size (.slice A (n + m) c) (n + m) (xs ++ ys)) (hx : xs.length = n * size) : w.ownsRow base e size (.slice A n c) n xs := by
  refine ⟨hx, ?_⟩
  rcases h.2 with ⟨h0, h1⟩ | ⟨g, cap, cur, h0, hb, hg, hnc, hcm, hcs, htake⟩
  · injection h0 with e1 e2 e3
    subst e1 e3
    exact .inl ⟨by rw [show n = 0 by omega], by omega⟩
  · injection h0 with e1 e2 e3
    subst e1 e3
    refine .inr ⟨g, c, cur, rfl, hb, hg, by omega, hcm, hcs, ?_⟩
    have h2 := congrArg (List.take (n * size)) htake
    have h3 : List.take (n * size) (xs ++ ys) = xs := by rw [List.take_append_of_le_length (by omega), List.take_of_length_le (by omega)]
    rw [List.take_take, Nat.min_eq_left (Nat.mul_le_mul_right _ (by omega)), h3] at h2
    exact h2
theorem row_nil_formI {w : World} {base : Nat} {e : TypeId} {size : Nat} {A : Option Addr} {n c : Nat} {xs : List Value} (h : w.ownsRow base e size (.slice A n c) n xs) : A = none → n = 0 ∧ c = 0 := by
  rcases h.2 with ⟨h0, _⟩ | ⟨g, cap, cur, h0, _⟩
  · injection h0 with e1 e2 e3
    exact fun _ => ⟨e2, e3⟩
  · injection h0 with e1 e2 e3
    intro e; rw [e] at e1; cases e1
theorem row_le_capI {w : World} {base : Nat} {e : TypeId} {size : Nat} {A : Option Addr} {n c : Nat} {xs : List Value} (h : w.ownsRow base e size (.slice A n c) n xs) : n ≤ c := by
  rcases h.2 with ⟨h0, _⟩ | ⟨g, cap, cur, h0, _, _, hnc, _⟩
  · injection h0 with e1 e2 e3
    omega
  · injection h0 with e1 e2 e3
    omega
/-- A list while it grows behind: what it is now, and where. -/
structure GrowI (ws w : World) (base : Nat) (A : Option Addr) (n c k i : Nat) (gv : Value) : Prop where
  kept : Keeps (fun g => (Value.slice A n c).ownBlock = some g) ws w
  old : w.ownsRow base 3 1 (.slice A n c) n (markRowI k n)
  new : w.ownsRow base 3 1 gv (n + i) (markRowI k (n + i))
  place : gv = .slice A (n + i) c ∨ ∀ b, gv.ownBlock = some b → ws.heap.size ≤ b
theorem GrowI.fits {ws w w' : World} {base g n c k i : Nat} {o : Obj} (h : GrowI ws w base (some ⟨g, 0, none⟩) n c k i (.slice (some ⟨g, 0, none⟩) (n + i) c))
    (hown : w'.ownsRow base 3 1 (.slice (some ⟨g, 0, none⟩) (n + i + 1) c) (n + i + 1) (markRowI k (n + i) ++ [mkvI k (n + i)])) (hg : (w.alloc o).grownBy w' (some g)) :
    GrowI ws w' base (some ⟨g, 0, none⟩) n c k (i + 1) (.slice (some ⟨g, 0, none⟩) (n + i + 1) c) := by
  have e : markRowI k (n + (i + 1)) = markRowI k (n + i) ++ [mkvI k (n + i)] := markRowI_succ k (n + i)
  refine ⟨h.kept.trans ((Keeps.alloc _ w o).trans (Keeps.grown hg fun _ e => e) fun _ _ h => h) fun x _ hx => ?_, ?_, by rw [e]; exact hown, .inl rfl⟩
  · exact hx
  · have e2 : markRowI k (n + i + 1) = markRowI k n ++ ((List.range (i + 1)).map fun x => mkvI k (n + x)) := by
      rw [markRowI_eq, markRowI_eq, Nat.add_assoc, List.range_add, List.map_append, List.map_map]; rfl
    have e3 : markRowI k (n + i + 1) = markRowI k (n + i) ++ [mkvI k (n + i)] := markRowI_succ k (n + i)
    rw [← e3, e2] at hown
    exact row_prefixI (m := i + 1) hown (by simp [markRowI])
theorem GrowI.moves {ws w w' : World} {base n c k i : Nat} {A : Option Addr} {o : Obj} {gv gv' : Value} (h : GrowI ws w base A n c k i gv) (hb : base ≤ w.heap.size) (hsz : ws.heap.size ≤ w.heap.size)
    (hown : w'.ownsRow (w.alloc o).heap.size 3 1 gv' (n + i + 1) (markRowI k (n + i) ++ [mkvI k (n + i)])) (hg : (w.alloc o).grownBy w' none) :
    GrowI ws w' base A n c k (i + 1) gv' := by
  have e : markRowI k (n + (i + 1)) = markRowI k (n + i) ++ [mkvI k (n + i)] := markRowI_succ k (n + i)
  have hk : Keeps (fun _ => False) w w' := (Keeps.alloc _ w o).trans (Keeps.grown hg fun _ e => by cases e) fun _ _ h => h
  refine ⟨h.kept.trans hk fun x _ hx => hx.elim, hk.row h.old fun _ _ h => h, ?_, .inr fun b hbk => ?_⟩
  · rw [e]; exact row_more hown (by simp; omega)
  · have := (row_lt hown hbk).1
    simp at this
    omega
theorem GrowI.lies {ws w w' : World} {base n c k i g cap : Nat} {A : Option Addr} {o : Obj} {gv : Value} (h : GrowI ws w base A n c k i gv) (hsz : ws.heap.size ≤ w.heap.size) (hpl : ∀ b, gv.ownBlock = some b → ws.heap.size ≤ b) (hAw : ∀ b, (Value.slice A n c).ownBlock = some b → b < ws.heap.size)
    (hown : w'.ownsRow base 3 1 (.slice (some ⟨g, 0, none⟩) (n + i + 1) cap) (n + i + 1) (markRowI k (n + i) ++ [mkvI k (n + i)])) (hg : (w.alloc o).grownBy w' gv.ownBlock) (hat : gv.ownBlock = some g ∨ g = (w.alloc o).heap.size) :
    GrowI ws w' base A n c k (i + 1) (.slice (some ⟨g, 0, none⟩) (n + i + 1) cap) := by
  have e : markRowI k (n + (i + 1)) = markRowI k (n + i) ++ [mkvI k (n + i)] := markRowI_succ k (n + i)
  have hk : Keeps (fun x => gv.ownBlock = some x) w w' := (Keeps.alloc _ w o).trans (Keeps.grown hg fun _ e => e) fun _ _ h => h
  refine ⟨?_, hk.row h.old fun b hb hb2 => ?_, by rw [e]; exact hown, .inr fun b hbk => ?_⟩
  · exact h.kept.trans hk fun x hx hx2 => absurd (hpl x hx2) (by omega)
  · have h1 := hAw b hb
    have h2 := hpl b hb2
    omega
  · have : some g = some b := hbk
    injection this with this
    subst this
    rcases hat with h1 | h1
    · exact hpl _ h1
    · rw [h1]; simp; omega
theorem MarkI.drewN {w0 w : World} {base K : Nat} {v : Nat → Value} {n : Nat → Nat} {k i : Nat} (h : MarkI w0 w base K v n k i) (m : Nat) : MarkI w0 (w.drewN m) base K v n k i :=
  ⟨h.kept.trans (Keeps.drewN _ w m) fun _ _ h => h, fun j hj => (h.rows j hj).keeps (Keeps.drewN (fun _ => False) w m) fun _ _ h => h⟩
theorem rows_neI {w : World} {base base' size size' n n' : Nat} {e e' : TypeId} {v v' : Value} {xs xs' : List Value} (h : w.ownsRow base e size v n xs) (h' : w.ownsRow base' e' size' v' n' xs') (ht : e ≠ e') (k : Nat) (hk : v.ownBlock = some k) : v'.ownBlock ≠ some k := by
  rcases h.2 with ⟨rfl, _⟩ | ⟨g, cap, cur, rfl, _, hg, _⟩
  · simp [Value.ownBlock] at hk
  · have e1 : g = k := by simpa [Value.ownBlock] using hk
    subst e1
    rcases h'.2 with ⟨rfl, _⟩ | ⟨g', cap', cur', rfl, _, hg', _⟩
    · simp [Value.ownBlock]
    · intro e2
      have e3 : g' = g := by simpa [Value.ownBlock] using e2
      subst e3
      rw [hg] at hg'
      injection hg' with hg'
      injection hg' with _ e4
      exact ht e4
/-- A list of lists: one cell turned. -/
theorem map_setI {n k : Nat} (f : Nat → Value) (u : Value) : ((List.range n).map f).set k u = (List.range n).map fun x => if x = k then u else f x := by
  apply List.ext_getElem?
  intro x
  rw [List.getElem?_set, List.getElem?_map, List.getElem?_map]
  by_cases hx : k = x
  · subst hx
    by_cases hk : k < n <;> simp [hk]
  · by_cases hxn : x < n
    · simp [hx, hxn, Ne.symm hx]
    · simp [hx, hxn]
/-- Lists marked; the first k grown. -/
structure FlatI (w0 w : World) (base K : Nat) (v : Nat → Value) (n : Nat → Nat) (H : Nat) (P : Nat → Nat) (k : Nat) (G : Nat → Value) : Prop where
  kept : Keeps (FootI K v) w0 w
  rows : ∀ j, j < K → w.ownsRow base 3 1 (v j) (n j) (markRowI j (n j))
  gs : w.ownsRow base 37 1 (.slice (some ⟨H, 0, none⟩) K K) K ((List.range K).map G)
  grown : ∀ j, j < k → (∃ f : Nat → Value, w.ownsRow base 3 1 (G j) (n j + 64) ((List.range (n j + 64)).map f) ∧ ∀ i, i < P j → f i = mkvI j i) ∧ ∀ b, (G j).ownBlock = some b → (v j).ownBlock = some b ∨ H < b
  low : w0.heap.size ≤ H
  vlt : ∀ j, j < K → ∀ b, (v j).ownBlock = some b → b < H
theorem FlatI.Hlt {w0 w : World} {base K : Nat} {v : Nat → Value} {n : Nat → Nat} {H : Nat} {P : Nat → Nat} {k : Nat} {G : Nat → Value} (h : FlatI w0 w base K v n H P k G) : H < w.heap.size := (row_lt h.gs (k := H) rfl).2
theorem FlatI.drewN {w0 w : World} {base K : Nat} {v : Nat → Value} {n : Nat → Nat} {H : Nat} {P : Nat → Nat} {k : Nat} {G : Nat → Value} (h : FlatI w0 w base K v n H P k G) (m : Nat) : FlatI w0 (w.drewN m) base K v n H P k G :=
  ⟨h.kept.trans (Keeps.drewN _ w m) fun _ _ h => h, fun j hj => (Keeps.drewN (fun _ => False) w m).row (h.rows j hj) fun _ _ h => h, (Keeps.drewN (fun _ => False) w m).row h.gs fun _ _ h => h,
    fun j hj => ⟨let ⟨xs, h1, h2⟩ := (h.grown j hj).1; ⟨xs, (Keeps.drewN (fun _ => False) w m).row h1 fun _ _ h => h, h2⟩, (h.grown j hj).2⟩, h.low, h.vlt⟩
theorem FlatI.done {w0 wk w' : World} {base K : Nat} {v : Nat → Value} {n : Nat → Nat} {H : Nat} {P : Nat → Nat} {k : Nat} {G : Nat → Value} {gv : Value} (h : FlatI w0 wk base K v n H P k G) (hd : DistI K v) (hk : k < K)
    (hkeep : Keeps (fun g => (v k).ownBlock = some g) wk w') (hold : w'.ownsRow base 3 1 (v k) (n k) (markRowI k (n k)))
    (hnew : ∃ f : Nat → Value, w'.ownsRow base 3 1 gv (n k + 64) ((List.range (n k + 64)).map f) ∧ ∀ i, i < P k → f i = mkvI k i) (hplace : ∀ b, gv.ownBlock = some b → (v k).ownBlock = some b ∨ wk.heap.size ≤ b) :
    FlatI w0 (w'.setCell ⟨H, k, none⟩ gv) base K v n H P (k + 1) (fun j => if j = k then gv else G j) := by
  have hst : Keeps (fun x => x = H) w' (w'.setCell ⟨H, k, none⟩ gv) := Keeps.setCell (fun x => x = H) w' ⟨H, k, none⟩ _ rfl
  have hgs := hkeep.row h.gs fun x hx hx2 => rows_neI (h.rows k hk) h.gs (by decide) x hx2 hx
  have hrow : ∀ j, j < K → w'.ownsRow base 3 1 (v j) (n j) (markRowI j (n j)) := fun j hj => by
    by_cases e : j = k
    · subst e; exact hold
    · exact hkeep.row (h.rows j hj) fun x hx hx2 => hd j k hj hk e x hx hx2
  have hH : ∀ {u : Value} {m : Nat} {xs : List Value}, w'.ownsRow base 3 1 u m xs → ∀ x, u.ownBlock = some x → ¬ x = H := fun ho x hx e => rows_neI ho hgs (by decide) x hx (by rw [e]; rfl)
  refine ⟨(h.kept.trans hkeep fun x _ hx => ⟨k, hk, hx⟩).trans hst fun x hx e => absurd hx (by have := h.low; omega), fun j hj => hst.row (hrow j hj) (hH (hrow j hj)), ?_, fun j hj => ?_, h.low, h.vlt⟩
  · have := (hgs.stored k gv).1
    rwa [map_setI] at this
  · by_cases e : j = k
    · subst e
      rw [if_pos rfl]
      obtain ⟨xs, h1, h2⟩ := hnew
      exact ⟨⟨xs, hst.row h1 (hH h1), h2⟩, fun b hb => (hplace b hb).imp id fun h3 => Nat.lt_of_lt_of_le h.Hlt h3⟩
    · rw [if_neg e]
      obtain ⟨⟨xs, h1, h2⟩, h3⟩ := h.grown j (by omega)
      have h4 := hkeep.row h1 fun x hx hx2 => by
        rcases h3 x hx with h5 | h5
        · exact hd j k (by omega) hk e x h5 hx2
        · have := h.vlt k hk x hx2; omega
      exact ⟨⟨xs, hst.row h4 (hH h4), h2⟩, h3⟩
theorem FlatI.reset {w0 w : World} {base K : Nat} {v : Nat → Value} {n : Nat → Nat} {H : Nat} {P P' : Nat → Nat} {k : Nat} {G : Nat → Value} (h : FlatI w0 w base K v n H P k G) : FlatI w0 w base K v n H P' 0 G :=
  ⟨h.kept, h.rows, h.gs, fun j hj => absurd hj (by omega), h.low, h.vlt⟩
/-- Two rows, one behind the other. -/
theorem map_joinI (n m : Nat) (f g : Nat → Value) : (List.range n).map f ++ (List.range m).map g = (List.range (n + m)).map fun i => if i < n then f i else g (i - n) := by
  rw [List.range_add, List.map_append, List.map_map]
  congr 1
  · exact List.map_congr_left fun i hi => by rw [if_pos (List.mem_range.1 hi)]
  · exact List.map_congr_left fun i _ => by
      show g i = if n + i < n then f (n + i) else g (n + i - n)
      rw [if_neg (by omega), Nat.add_sub_cancel_left]
theorem row_shapeI {w : World} {base : Nat} {e : TypeId} {size : Nat} {v : Value} {n : Nat} {xs : List Value} (h : w.ownsRow base e size v n xs) : ∃ A c, v = .slice A n c := by
  rcases h.2 with ⟨rfl, rfl⟩ | ⟨g, cap, cur, rfl, _⟩
  · exact ⟨_, _, rfl⟩
  · exact ⟨_, _, rfl⟩
end Go.Proofs.YtodhaaaodmcplaaGreat
