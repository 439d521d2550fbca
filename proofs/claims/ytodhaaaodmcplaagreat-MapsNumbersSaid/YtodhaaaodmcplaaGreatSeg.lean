/- Parts of rows that the call owns: sliced, a part of one stored. -/
import Derived.Test.YtodhaaaodmcplaaGreatApp
import Derived.Test.YtodhaaaodmcplaaGreatFs
set_option linter.all false
namespace Go.Proofs.YtodhaaaodmcplaaGreat
open Go.RowKit
theorem splice_get {α : Type} {L ys : List α} {o : Nat} (h : o + ys.length ≤ L.length) (i : Nat) : (splice L o ys)[i]? = if i < o then L[i]? else if i < o + ys.length then ys[i - o]? else L[i]? := by
  unfold splice
  by_cases h1 : i < o
  · rw [if_pos h1, List.getElem?_append_left (by simp; omega), List.getElem?_take, if_pos h1]
  · rw [if_neg h1, List.getElem?_append_right (by simp; omega), List.length_take, Nat.min_eq_left (by omega)]
    by_cases h2 : i < o + ys.length
    · rw [if_pos h2, List.getElem?_append_left (by omega)]
    · rw [if_neg h2, List.getElem?_append_right (by omega), List.getElem?_drop]
      congr 1; omega
theorem splice_take {α : Type} {L ys : List α} {o m : Nat} (h : o + ys.length ≤ m) (hm : m ≤ L.length) : (splice L o ys).take m = splice (L.take m) o ys := by
  apply List.ext_getElem?
  intro i
  rw [splice_get (by rw [List.length_take, Nat.min_eq_left hm]; exact h), List.getElem?_take, splice_get (by omega)]
  by_cases hi : i < m
  · rw [if_pos hi, List.getElem?_take, if_pos hi]
  · rw [if_neg hi, if_neg (by omega), if_neg (by omega), List.getElem?_take, if_neg hi]
theorem splice_mid {α : Type} (A B T ys : List α) {o : Nat} (ho : A.length = o) (h : B.length = ys.length) : splice (A ++ (B ++ T)) o ys = A ++ (ys ++ T) := by
  have e : (A ++ (B ++ T)).drop (o + ys.length) = T := by
    rw [← List.append_assoc]
    exact List.drop_left' (by simp; omega)
  unfold splice
  rw [List.take_left' ho, e]
theorem splice_left {α : Type} (A B ys : List α) {o : Nat} (h : o + ys.length ≤ A.length) : splice (A ++ B) o ys = splice A o ys ++ B := by
  unfold splice
  rw [List.take_append_of_le_length (by omega), List.drop_append_of_le_length (by omega)]
  simp
theorem splice_right {α : Type} (A B ys : List α) (o : Nat) : splice (A ++ B) (A.length + o) ys = A ++ splice B o ys := by
  unfold splice
  rw [List.take_append, List.drop_append]
  simp [List.take_of_length_le, List.drop_eq_nil_of_le, Nat.add_assoc]
theorem splice_flat {F G : Nat → List Value} {s m o : Nat} {ys : List Value} (hF : Wide s F) (ho : o + ys.length ≤ s) (hm : G m = splice (F m) o ys) (hne : ∀ j, j ≠ m → G j = F j) : ∀ {n : Nat}, m < n → splice (flatS F n) (m * s + o) ys = flatS G n
  | n + 1, h => by
    rw [flatS, flatS]
    by_cases e : m = n
    · subst e
      rw [← flatS_len hF m, splice_right, hm, flatS_congr (F := F) (G := G) fun j hj => (hne j (by omega)).symm]
    · have h2 : m < n := by omega
      have h3 := Nat.mul_le_mul_right s (show m + 1 ≤ n from h2)
      rw [Nat.add_mul, Nat.one_mul] at h3
      rw [splice_left _ _ _ (by rw [flatS_len hF]; omega), splice_flat hF ho hm hne h2, hne n (by omega)]
/-- A part of a row turned. -/
theorem own_seg {w w' : World} {base : Nat} {e : TypeId} {size g n cap o : Nat} {xs ys : List Value} {cur : Array Value} (h : w.ownsRow base e size (.slice (some ⟨g, 0, none⟩) n cap) n xs) (hc : w.heap[g]? = some (.cells cur e (0, 0))) (ho : o + ys.length ≤ n * size)
    (hw : w'.heap[g]? = some (.cells (splice cur.toList o ys).toArray e (0, 0))) : w'.ownsRow base e size (.slice (some ⟨g, 0, none⟩) n cap) n (splice xs o ys) := by
  have hl := h.1
  rcases h.2 with ⟨h1, _⟩ | ⟨g2, cap2, cur2, h1, h2, h3, h4, h5, h6, h7⟩
  · simp at h1
  · injection h1 with h1 h8 h9
    injection h1 with h1
    injection h1 with h1
    subst h1 h9
    rw [hc] at h3
    injection h3 with h3
    injection h3 with h3
    subst h3
    have hcl : n * size ≤ cur.toList.length := by rw [Array.length_toList, h6]; exact Nat.mul_le_mul_right _ h4
    refine ⟨by rw [length_splice _ _ _ (by omega)]; exact hl, .inr ⟨g, cap, _, rfl, h2, hw, h4, h5, ?_, ?_⟩⟩
    · rw [List.size_toArray, length_splice _ _ _ (by omega), Array.length_toList]; exact h6
    · show (splice cur.toList o ys).take (n * size) = _
      rw [splice_take ho hcl, h7]
section
variable {P : Program} {w : World} {ops : Array Oper} {rest : List Oper} {o : Oper} {a : Act} {Q : Exit → Act → World → Prop}
/-- append to a row that the call owns, whatever the source: nil too. -/
theorem wp_append_any {K : Act → World → Prop} (s x : Operand) (t : TypeId) (ho : o.op = .call { callee := .builtin .append, args := #[s, x], argTypes := #[t, t] })
    (base : Nat) (e : TypeId) (i : TypeInfo) (z : Value) (size bytes : Nat) (ht : P.underlying t = some (.slice e)) (hi : P.info? e = some i) (hz : i.zero = some z)
    (hsize : i.size = size) (hby : i.bytes = bytes) (hzs : z.cells.size = size) (hsz : 0 < size)
    (v : Value) (n : Nat) (xs : List Value) (hs : a.eval s = v) (hown : w.ownsRow base e size v n xs)
    (A : Option Addr) (m c : Nat) (news : List Value) (hx : a.eval x = .slice A m c) (hA : A = none → m = 0 ∧ c = 0) (hl : news.length = m * size) (hnews : ∀ ad, A = some ad → ∀ j u, news[j]? = some u → w.cell? (ad.add j) = some u) (h1 : ∀ u ∈ news, u.oneCell' = true)
    (h63 : n + m ≤ maxLen) (hbytes : (n + m) * bytes ≤ 140737488355328) (hbase : base ≤ w.heap.size)
    (h : ∀ v' w', w'.ownsRow base e size v' (n + m) (xs ++ news) → w.grownBy w' v.ownBlock → K (a.put o.dst v') w') : o.wp P a w K Q := by
  cases A with
  | none =>
    obtain ⟨rfl, rfl⟩ := hA rfl
    have hn : news = [] := List.eq_nil_of_length_eq_zero (by rw [hl, Nat.zero_mul])
    subst hn
    have hrun := run_append_owned_none (P := P) (w := w) base t o.type e i size ht hi v n xs hown
    have hk := h v w (by rw [List.append_nil]; exact hown) ⟨rfl, rfl, rfl, Nat.le_refl _, fun _ _ _ => rfl⟩
    unfold Oper.wp
    simp [execOp, ho, resolve, invoke, builtin, hs, hx, hrun, Result.andThen]
    exact hk
  | some ad => exact wp_append_own w s x t ho base e i z size bytes ht hi hz hsize hby hzs hsz v n xs hs hown ad m c news hx hl (hnews ad rfl) h1 h63 hbytes hbase fun v' w' h2 h3 _ => h v' w' h2 h3
/-- l[i:j], one operation. -/
theorem wp_sliceG {K : Act → World → Prop} (t : TypeId) (x : Operand) (lo hi : Option Operand) (ho : o.op = .slice t x lo hi none) (u : Value) (hx : a.eval x = u) (l m : Option Value) (hl : lo.map a.eval = l) (hm : hi.map a.eval = m) (r : Value)
    (hr : (Instr.sliceAt t u l m none).run P w = .ok r w) (h : K (a.put o.dst r) w) : o.wp P a w K Q := by
  subst hx hl hm
  unfold Oper.wp execOp
  simp only [ho, Option.map_none, Sem.run_bind, hr, Result.andThen_ok, Sem.run_pure]
  exact h
theorem wpList_sliceG (hg : Region.wanted o (yielded ops a.tmps) = true) (t : TypeId) (x : Operand) (lo hi : Option Operand) (ho : o.op = .slice t x lo hi none) (u : Value) (hx : a.eval x = u) (l m : Option Value) (hl : lo.map a.eval = l) (hm : hi.map a.eval = m) (r : Value)
    (hr : (Instr.sliceAt t u l m none).run P w = .ok r w) (h : wpList P ops Q rest (a.put o.dst r) w) : wpList P ops Q (o :: rest) a w :=
  BigFrame.wpList_want hg fun _ hK => wp_sliceG t x lo hi ho u hx l m hl hm r hr (hK _ _ h)
theorem yields_slice {S : World → Prop} (hw : Region.wanted o (yielded ops a.tmps) = true) (t : TypeId) (x : Operand) (lo hi : Option Operand) (ho : o.op = .slice t x lo hi none) (u : Value) (hx : a.eval x = u) (l m : Option Value) (hl : lo.map a.eval = l) (hm : hi.map a.eval = m) (r : Value)
    (hr : ∀ w, (Instr.sliceAt t u l m none).run P w = .ok r w) : YieldsIf P ops S o r a :=
  .inl ⟨hw, fun w _ => by
    subst hx hl hm
    unfold execOp
    simp only [ho, Option.map_none, Sem.run_bind, hr w, Result.andThen_ok, Sem.run_pure]⟩
end
/-- What l[:m] and l[m:] are, of a row's slice. -/
theorem slice_head {P : Program} {t : TypeId} {e : TypeId} (ht : P.underlying t = some (.slice e)) {s : Nat} (hs : (P.info? e).map (·.size) = some s) {A : Option Addr} (hsp : ∀ ad, A = some ad → ad.spot = none) (n c m : Nat) (hmn : m ≤ n) (hnc : n ≤ c) (w : World) :
    (Instr.sliceAt t (.slice A n c) none (some (.int .i64 m)) none).run P w = .ok (.slice A m c) w := by
  have he : P.elem t = e := by simp [Program.elem, ht]
  have ht' : P.underlying t = some (.slice (P.elem t)) := by rw [he]; exact ht
  have hz : (sizeOf (P.elem t)).run P w = .ok s w := by
    rw [he]
    cases hq : P.info? e with
    | none => simp [hq] at hs
    | some i =>
      have : i.size = s := by simpa [hq] using hs
      simp [sizeOf, typeInfo, hq, this]
  rw [run_sliceAt_slice w t _ _ _ _ ht', run_slice_h w t A n c ht' .i64 (m : Int) (by omega) (by omega), hz]
  simp only [Result.andThen_ok, sliced, Int.toNat_natCast, Nat.sub_zero]
  congr 2
  split
  · rfl
  · cases A with
    | none => rfl
    | some ad =>
      obtain ⟨b, o, sp⟩ := ad
      obtain rfl : sp = none := hsp _ rfl
      simp [Addr.add]
theorem slice_tail {P : Program} {t : TypeId} {e : TypeId} (ht : P.underlying t = some (.slice e)) {s : Nat} (hs : (P.info? e).map (·.size) = some s) (A : Option Addr) (n c m : Nat) (hmn : m ≤ n) (w : World) :
    (Instr.sliceAt t (.slice A n c) (some (.int .i64 m)) none none).run P w = .ok (.slice (if c = m then A else A.map (·.add (m * s))) (n - m) (c - m)) w := by
  have he : P.elem t = e := by simp [Program.elem, ht]
  have ht' : P.underlying t = some (.slice (P.elem t)) := by rw [he]; exact ht
  have hz : (sizeOf (P.elem t)).run P w = .ok s w := by
    rw [he]
    cases hq : P.info? e with
    | none => simp [hq] at hs
    | some i =>
      have : i.size = s := by simpa [hq] using hs
      simp [sizeOf, typeInfo, hq, this]
  rw [run_sliceAt_slice w t _ _ _ _ ht', run_slice_l w t A n c ht' .i64 (m : Int) (by omega) (by omega), hz]
  simp only [Result.andThen_ok, sliced, Int.toNat_natCast]
/-- The rest of a row reads as such. -/
theorem sarr_rest {w : World} {B n c s m : Nat} {A : Option Addr} {F : Nat → List Value} (h : SArr w B A n s F) (hA : A = none → n = 0 ∧ c = 0) (hnc : n ≤ c) (hm : m ≤ n) :
    SArr w B (if c = m then A else A.map (·.add (m * s))) (n - m) s (fun i => F (m + i)) ∧ ((if c = m then A else A.map (·.add (m * s))) = none → n - m = 0 ∧ c - m = 0) := by
  constructor
  · intro hn
    obtain ⟨b, o, rfl, hb, hc⟩ := h (by omega)
    rw [if_neg (by omega)]
    refine ⟨b, o + m * s, by simp [Addr.add], hb, fun j hj => ?_⟩
    have := hc (m + j) (by omega)
    rwa [show o + (m + j) * s = o + m * s + j * s by rw [Nat.add_mul]; omega] at this
  · intro hx
    split at hx
    · have := hA hx; omega
    · cases A with
      | none => have := hA rfl; omega
      | some ad => simp at hx
theorem sarr_spot {w : World} {B n s : Nat} {A : Option Addr} {F : Nat → List Value} {base : Nat} {e : TypeId} {c : Nat} {xs : List Value} (_h : SArr w B A n s F) (ho : w.ownsRow base e s (.slice A n c) n xs) : ∀ ad, A = some ad → ad.spot = none := fun ad ha => by
  rcases ho.2 with ⟨h1, _⟩ | ⟨g, cap, cur, h1, _⟩
  · rw [ha] at h1; simp at h1
  · injection h1 with h1
    rw [ha] at h1
    injection h1 with h1
    rw [h1]
end Go.Proofs.YtodhaaaodmcplaaGreat
