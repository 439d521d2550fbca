/- Maps that the call makes, whatever their keys and their elements: looked up, put, deleted, counted, gone through. -/
import Derived.Test.YtodhaaaodmcplaaGreatMk2
import Derived.Maps.OwnSet
import Derived.BigFrame
set_option linter.all false
namespace Go.Proofs.YtodhaaaodmcplaaGreat
open Go.RowKit Go.Maps Go.WideMaps Go.WideElems Go.ChangeMaps
/-- How keys of a type are written and read. -/
structure KeyT (P : Program) (k : TypeId) (κ : Type) where
  ok : κ → Prop
  enc : κ → Value
  lit : κ → Lit
  keyed : Keyed P k
  islit : ∀ x, ok x → WideAt.IsKeyLit (lit x)
  key : ∀ x, ok x → keyOf P k (enc x) = some (lit x)
  inj : ∀ x y, ok x → ok y → lit x = lit y → x = y
  encInj : ∀ x y, enc x = enc y → x = y
  inv : ∀ v l, keyOf P k v = some l → ∃ x, ok x ∧ v = enc x
open Classical in
/-- How an element reads: as itself, if it is one. -/
noncomputable def gR (ok : Value → Prop) (v : Value) : Option (DataW Value × List MemPlace) := if ok v then some (.held v, []) else none
theorem gR_ok {ok : Value → Prop} {v : Value} (h : ok v) : gR ok v = some (.held v, []) := by unfold gR; rw [if_pos h]
theorem gR_inv {ok : Value → Prop} {v : Value} {y : DataW Value × List MemPlace} (h : gR ok v = some y) : ok v ∧ y = (.held v, []) := by
  unfold gR at h
  split at h
  · rename_i h1
    exact ⟨h1, (Option.some.inj h).symm⟩
  · cases h
section
variable {P : Program} {k : TypeId} {κ : Type} [DecidableEq κ]
/-- Block B holds a map of c entries: L tells what stands at a key. -/
def Gm (P : Program) (w : World) (T : KeyT P k κ) (ok : Value → Prop) (B c : Nat) (L : κ → Option Value) : Prop :=
  ∃ D : DataW Value, w.ownsMap P k (gR ok) B c D ∧ Maps.size D = c ∧ (∀ x, T.ok x → (L x = none → ∀ z, D.atKey (T.lit x) z = z) ∧ ∀ v, L x = some v → ok v ∧ ∀ z, D.atKey (T.lit x) z = .held v)
theorem own_exact {w : World} {R : Value → Option (DataW Value × List MemPlace)} {B n : Nat} {D : DataW Value} (h : w.ownsMap P k R B n D) : w.ownsMap P k R B (Maps.size D) D := by
  obtain ⟨es, clock, hb, F, hs, rfl⟩ := h
  refine ⟨es, clock, hb, F, ?_, rfl⟩
  have e1 : ∀ l : List (Lit × DataW Value), Maps.size (DataW.map l) = l.length := fun _ => rfl
  rw [e1, length_sorted]
  simp
variable {T : KeyT P k κ} {ok : Value → Prop} {w : World} {B c : Nat} {L : κ → Option Value}
omit [DecidableEq κ] in
theorem Gm.keeps {w' : World} (h : Gm P w T ok B c L) (hk : w'.heap[B]? = w.heap[B]?) : Gm P w' T ok B c L := by
  obtain ⟨D, ⟨es, clock, hb, F, hs, hD⟩, h2⟩ := h
  exact ⟨D, ⟨es, clock, hk.trans hb, F, hs, hD⟩, h2⟩
omit [DecidableEq κ] in
theorem Gm.lt (h : Gm P w T ok B c L) : B < w.heap.size := by
  obtain ⟨D, ⟨es, clock, hb, F, hs, hD⟩, h2⟩ := h
  exact heap_lt hb
omit [DecidableEq κ] in
theorem Gm.congr {L' : κ → Option Value} (h : Gm P w T ok B c L) (hL : ∀ x, T.ok x → L x = L' x) : Gm P w T ok B c L' := by
  obtain ⟨D, h1, h2, h3⟩ := h
  exact ⟨D, h1, h2, fun x hk => by rw [← hL x hk]; exact h3 x hk⟩
omit [DecidableEq κ] in
theorem Gm.okV (h : Gm P w T ok B c L) {x : κ} (hx : T.ok x) {v : Value} (hv : L x = some v) : ok v := by
  obtain ⟨D, h1, h2, h3⟩ := h
  exact ((h3 x hx).2 v hv).1
omit [DecidableEq κ] in
theorem Gm.hasB (h : Gm P w T ok B c L) : ∃ D : DataW Value, w.ownsMap P k (gR ok) B c D ∧ Maps.size D = c ∧ (∀ x, T.ok x → Maps.has D (T.lit x) = (L x).isSome) ∧ (∀ x, T.ok x → (L x = none → ∀ z, D.atKey (T.lit x) z = z) ∧ ∀ v, L x = some v → ok v ∧ ∀ z, D.atKey (T.lit x) z = .held v) := by
  obtain ⟨D, h1, h2, h3⟩ := h
  refine ⟨D, h1, h2, fun x hx => ?_, h3⟩
  cases hL : L x with
  | none => exact has_false_of_atKey ((h3 x hx).1 hL)
  | some v => exact has_true_of_atKey ((h3 x hx).2 v hL).2
omit [DecidableEq κ] in
theorem gm_made (w : World) (T : KeyT P k κ) (ok : Value → Prop) : Gm P (w.alloc (.map #[] 0)) T ok w.heap.size 0 (fun _ => none) :=
  ⟨.map [], World.ownsMap_made w _ _ _, rfl, fun x _ => ⟨fun _ _ => rfl, fun v h => by cases h⟩⟩
omit [DecidableEq κ] in
/-- 'v, ok := m[k]'. -/
theorem Gm.look (h : Gm P w T ok B c L) {t e : TypeId} (ht : P.underlying t = some (.map k e)) {z : Value} (hz : (zeroValue e).run P w = .ok z w) {x : κ} (hx : T.ok x) (cm : Bool) :
    (Instr.lookup t (.map (some B)) (T.enc x) cm).run P w = .ok (if cm then .tuple #[(L x).getD z, .bool (L x).isSome] else (L x).getD z) w := by
  obtain ⟨D, ⟨es, clock, hb, F, hs, rfl⟩, h2, h3⟩ := h
  obtain ⟨h4, h5⟩ := h3 x hx
  rcases Maps.fit_look cm T.keyed ht hz hb F (T.key x hx) with ⟨hrun, -, hat⟩ | ⟨e0, y, -, -, hrun, hRv, hat, -⟩
  · cases hL : L x with
    | none => rw [hrun]; rfl
    | some v =>
      have e1 := (h5 v hL).2 (.lit (.bool true))
      rw [hat] at e1
      cases e1
  · cases hL : L x with
    | none =>
      have e1 := h4 hL (.lit (.bool true))
      have e2 := h4 hL (.lit (.bool false))
      rw [hat] at e1 e2
      rw [e1] at e2
      injection e2 with e2
      injection e2 with e2
      cases e2
    | some v =>
      have e1 := (h5 v hL).2 (.lit (.bool true))
      rw [hat] at e1
      obtain ⟨-, e2⟩ := gR_inv hRv
      rw [e2] at e1
      injection e1 with e1
      rw [hrun, e1]
      rfl
/-- 'm[k] = v'. -/
theorem Gm.put (h : Gm P w T ok B c L) {t e : TypeId} (ht : P.underlying t = some (.map k e)) (hn : c < maxLen) {x : κ} (hx : T.ok x) {v : Value} (hv : ok v) :
    ∃ w', (Instr.mapUpdate t (.map (some B)) (T.enc x) v).run P w = .ok () w' ∧ Gm P w' T ok B (if (L x).isSome then c else c + 1) (fun y => if y = x then some v else L y) ∧ w.grownBy w' (some B) := by
  obtain ⟨D, h1, h2, hh, h3⟩ := h.hasB
  have ht1 := h1.tidy T.keyed
  obtain ⟨w', hr, q1, q2⟩ := h1.update T.keyed ht hn (T.key x hx) (gR_ok hv)
  have hsz : Maps.size (D.put (T.lit x) (.held v)) = if (L x).isSome then c else c + 1 := by
    rw [size_put ht1, hh x hx, h2]
  refine ⟨w', hr, ⟨_, by have := own_exact q1; rw [hsz] at this; exact this, hsz, fun y hy => ?_⟩, q2⟩
  by_cases e1 : y = x
  · subst e1
    refine ⟨fun h => by simp at h, fun u hu => ?_⟩
    have : u = v := by simpa using hu.symm
    subst this
    exact ⟨hv, fun z => atKey_put_same ht1.isMap (T.islit y hy) _ z⟩
  · have hne : T.lit y ≠ T.lit x := fun h => e1 (T.inj y x hy hx h)
    obtain ⟨h4, h5⟩ := h3 y hy
    refine ⟨fun h z => ?_, fun u hu => ⟨(h5 u (by simpa [e1] using hu)).1, fun z => ?_⟩⟩
    · rw [atKey_put_other hne]
      exact h4 (by simpa [e1] using h) z
    · rw [atKey_put_other hne]
      exact (h5 u (by simpa [e1] using hu)).2 z
/-- 'delete(m, k)'. -/
theorem Gm.del (h : Gm P w T ok B c L) {t e : TypeId} (ht : P.underlying t = some (.map k e)) {x : κ} (hx : T.ok x) (ty : TypeId) :
    ∃ w', (Builtin.delete_ #[t, k] ty #[.map (some B), T.enc x]).run P w = .ok (.tuple #[]) w' ∧ Gm P w' T ok B (if (L x).isSome then c - 1 else c) (fun y => if y = x then none else L y) ∧ w.grownBy w' (some B) := by
  obtain ⟨D, h1, h2, hh, h3⟩ := h.hasB
  have ht1 := h1.tidy T.keyed
  obtain ⟨w', hr, q1, q2⟩ := h1.drop T.keyed ht (T.key x hx) ty
  have hsz : Maps.size (D.del (T.lit x)) = if (L x).isSome then c - 1 else c := by
    have := size_del (k := T.lit x) ht1
    rw [hh x hx, h2] at this
    split <;> simp_all <;> omega
  refine ⟨w', hr, ⟨_, by have := own_exact q1; rw [hsz] at this; exact this, hsz, fun y hy => ?_⟩, q2.grown⟩
  by_cases e1 : y = x
  · subst e1
    exact ⟨fun _ z => atKey_del_same z, fun u hu => by simp at hu⟩
  · have hne : T.lit y ≠ T.lit x := fun h => e1 (T.inj y x hy hx h)
    obtain ⟨h4, h5⟩ := h3 y hy
    refine ⟨fun h z => ?_, fun u hu => ⟨(h5 u (by simpa [e1] using hu)).1, fun z => ?_⟩⟩
    · rw [atKey_del_other hne]
      exact h4 (by simpa [e1] using h) z
    · rw [atKey_del_other hne]
      exact (h5 u (by simpa [e1] using hu)).2 z
omit [DecidableEq κ] in
theorem Gm.len (h : Gm P w T ok B c L) {t e : TypeId} (ht : P.underlying t = some (.map k e)) (ty : TypeId) : (Builtin.len_ #[t] ty #[.map (some B)]).run P w = .ok (.int .i64 c) w := by
  obtain ⟨D, h1, h2, h3⟩ := h
  rw [h1.len ht ty, h2]
section
variable {ops : Array Oper} {rest : List Oper} {o : Oper} {a : Act} {Q : Exit → Act → World → Prop} {K' : Act → World → Prop}
omit [DecidableEq κ] in
theorem wp_gm_look (m x : Operand) (t e : TypeId) (cm : Bool) (hop : o.op = Op.lookup t m x cm) (h : Gm P w T ok B c L) (ht : P.underlying t = some (.map k e)) {z : Value} (hz : (zeroValue e).run P w = .ok z w) (hm : a.eval m = .map (some B)) (y : κ) (hx : a.eval x = T.enc y) (hy : T.ok y)
    (r : Value) (hr : (if cm then .tuple #[(L y).getD z, .bool (L y).isSome] else (L y).getD z) = r) (hK : K' (a.put o.dst r) w) : o.wp P a w K' Q := by
  have hrun := h.look ht hz hy cm
  rw [hr] at hrun
  unfold Oper.wp
  simp [execOp, hop, hm, hx, hrun, Result.andThen]
  exact hK
omit [DecidableEq κ] in
theorem wpList_gm_look (hg : Region.wanted o (yielded ops a.tmps) = true) (m x : Operand) (t e : TypeId) (cm : Bool) (hop : o.op = Op.lookup t m x cm) (h : Gm P w T ok B c L) (ht : P.underlying t = some (.map k e)) {z : Value} (hz : (zeroValue e).run P w = .ok z w) (hm : a.eval m = .map (some B)) (y : κ) (hx : a.eval x = T.enc y) (hy : T.ok y)
    (r : Value) (hr : (if cm then .tuple #[(L y).getD z, .bool (L y).isSome] else (L y).getD z) = r) (hK : wpList P ops Q rest (a.put o.dst r) w) : wpList P ops Q (o :: rest) a w :=
  BigFrame.wpList_want hg fun _ hK' => wp_gm_look m x t e cm hop h ht hz hm y hx hy r hr (hK' _ _ hK)
theorem wp_gm_put (m x v : Operand) (t e : TypeId) (hop : o.op = Op.mapUpdate t m x v) (h : Gm P w T ok B c L) (ht : P.underlying t = some (.map k e)) (hn : c < maxLen) (hm : a.eval m = .map (some B)) (y : κ) (hx : a.eval x = T.enc y) (hy : T.ok y) (u : Value) (hv : a.eval v = u) (hu : ok u)
    (hK : ∀ w', Gm P w' T ok B (if (L y).isSome then c else c + 1) (fun z => if z = y then some u else L z) → w.grownBy w' (some B) → K' (a.put o.dst undef) w') : o.wp P a w K' Q := by
  obtain ⟨w', hrun, q1, q2⟩ := h.put ht hn hy hu
  unfold Oper.wp
  simp [execOp, hop, hm, hx, hv, hrun, Result.andThen]
  exact hK _ q1 q2
theorem wpList_gm_put (hg : Region.wanted o (yielded ops a.tmps) = true) (m x v : Operand) (t e : TypeId) (hop : o.op = Op.mapUpdate t m x v) (h : Gm P w T ok B c L) (ht : P.underlying t = some (.map k e)) (hn : c < maxLen) (hm : a.eval m = .map (some B)) (y : κ) (hx : a.eval x = T.enc y) (hy : T.ok y) (u : Value) (hv : a.eval v = u) (hu : ok u)
    (hK : ∀ w', Gm P w' T ok B (if (L y).isSome then c else c + 1) (fun z => if z = y then some u else L z) → w.grownBy w' (some B) → wpList P ops Q rest (a.put o.dst undef) w') : wpList P ops Q (o :: rest) a w :=
  BigFrame.wpList_want hg fun _ hK' => wp_gm_put m x v t e hop h ht hn hm y hx hy u hv hu fun w' q1 q2 => hK' _ _ (hK w' q1 q2)
theorem wp_gm_del (m x : Operand) (t e : TypeId) (hop : o.op = Op.call { callee := Callee.builtin Builtin.delete, args := #[m, x], argTypes := #[t, k] }) (h : Gm P w T ok B c L) (ht : P.underlying t = some (.map k e)) (hm : a.eval m = .map (some B)) (y : κ) (hx : a.eval x = T.enc y) (hy : T.ok y)
    (hK : ∀ w', Gm P w' T ok B (if (L y).isSome then c - 1 else c) (fun z => if z = y then none else L z) → w.grownBy w' (some B) → K' (a.put o.dst (.tuple #[])) w') : o.wp P a w K' Q := by
  obtain ⟨w', hrun, r1, r2⟩ := h.del ht hy o.type
  unfold Oper.wp
  simp [execOp, hop, resolve, invoke, builtin, hm, hx, hrun, Result.andThen]
  exact hK w' r1 r2
theorem wpList_gm_del (hg : Region.wanted o (yielded ops a.tmps) = true) (m x : Operand) (t e : TypeId) (hop : o.op = Op.call { callee := Callee.builtin Builtin.delete, args := #[m, x], argTypes := #[t, k] }) (h : Gm P w T ok B c L) (ht : P.underlying t = some (.map k e)) (hm : a.eval m = .map (some B)) (y : κ) (hx : a.eval x = T.enc y) (hy : T.ok y)
    (hK : ∀ w', Gm P w' T ok B (if (L y).isSome then c - 1 else c) (fun z => if z = y then none else L z) → w.grownBy w' (some B) → wpList P ops Q rest (a.put o.dst (.tuple #[])) w') : wpList P ops Q (o :: rest) a w := by
  refine BigFrame.wpList_want hg fun K' hK' => ?_
  obtain ⟨w', hrun, r1, r2⟩ := h.del ht hy o.type
  unfold Oper.wp
  simp [execOp, hop, resolve, invoke, builtin, hm, hx, hrun, Result.andThen]
  exact hK' _ _ (hK w' r1 r2)
omit [DecidableEq κ] in
theorem wpList_gm_len (hg : Region.wanted o (yielded ops a.tmps) = true) (m : Operand) (t e : TypeId) (hop : o.op = Op.call { callee := Callee.builtin Builtin.len, args := #[m], argTypes := #[t] }) (h : Gm P w T ok B c L) (ht : P.underlying t = some (.map k e)) (hm : a.eval m = .map (some B))
    (hK : wpList P ops Q rest (a.put o.dst (.int .i64 c)) w) : wpList P ops Q (o :: rest) a w := by
  refine BigFrame.wpList_want hg fun K' hK' => ?_
  unfold Oper.wp
  simp [execOp, hop, resolve, invoke, builtin, hm, h.len ht o.type, Result.andThen]
  exact hK' _ _ hK
end
/-- 'for k, v := range m' under way: what has been met. -/
structure GmR (P : Program) (w : World) (T : KeyT P k κ) (ok : Value → Prop) (B r c : Nat) (L : κ → Option Value) (met : List (κ × Value)) (cnt : Nat) : Prop where
  it : ∃ (D : DataW Value) (left : Lit → Bool), w.ranges P k (gR ok) B r c D left cnt ∧ (∀ x, T.ok x → (left (T.lit x) = true ↔ (L x).isSome = true ∧ x ∉ met.map Prod.fst)) ∧ ∀ x v, T.ok x → L x = some v → ∀ z, D.atKey (T.lit x) z = .held v
  keys : ∀ p ∈ met, T.ok p.1 ∧ L p.1 = some p.2 ∧ ok p.2
  nodup : (met.map Prod.fst).Nodup
  all : cnt + met.length ≤ c
theorem lit_same {x y : κ} (hx : T.ok x) (hy : T.ok y) : (T.lit x).sameKey (T.lit y) = decide (x = y) := by
  by_cases h : x = y
  · rw [h, decide_eq_true rfl]
    exact WideAt.sameKey_self (T.islit y hy)
  · rw [decide_eq_false h]
    exact sameKey_ne fun e => h (T.inj x y hx hy e)
theorem nodup_sub {α : Type} [DecidableEq α] : ∀ {l m : List α}, l.Nodup → (∀ x ∈ l, x ∈ m) → l.length ≤ m.length
  | [], _, _, _ => Nat.zero_le _
  | a :: l, m, h, hs => by
    obtain ⟨h1, h2⟩ := List.nodup_cons.1 h
    have ha := hs a (by simp)
    have ih := nodup_sub (m := m.erase a) h2 fun x hx => (List.mem_erase_of_ne (fun (e : x = a) => h1 (by rw [← e]; exact hx))).2 (hs x (by simp [hx]))
    rw [List.length_erase_of_mem ha] at ih
    have := List.length_pos_of_mem ha
    simp only [List.length_cons]
    omega
omit [DecidableEq κ] in
/-- A list of all its keys is as long as it has entries, at least. -/
theorem Gm.count (h : Gm P w T ok B c L) {M : List κ} (hM : ∀ x v, T.ok x → L x = some v → x ∈ M) : c ≤ M.length := by
  obtain ⟨D, h1, h2, hh, h3⟩ := h.hasB
  have htd := h1.tidy T.keyed
  obtain ⟨es, clock, hb, F, hs, rfl⟩ := h1
  classical
  obtain ⟨l, hl⟩ : ∃ l, l = (es.toList.map (rg P k (gR ok))).foldr DataW.insert [] := ⟨_, rfl⟩
  rw [← hl] at htd h2 hh
  obtain ⟨l', e1, hp⟩ := htd
  injection e1 with e1
  subst e1
  have hnd : (l.map Prod.fst).Nodup := by
    rw [List.nodup_iff_pairwise_ne, List.pairwise_map]
    exact hp
  have := nodup_sub (l := l.map Prod.fst) (m := M.map T.lit) hnd fun q hq => by
    obtain ⟨p, hp, rfl⟩ := List.mem_map.1 hq
    have hp' := hp
    rw [hl] at hp'
    obtain ⟨x, hx, rfl⟩ := List.mem_map.1 (mem_sorted.1 hp')
    obtain ⟨y, hy⟩ := F.reads x hx
    have hk := rd_key hy
    rw [rg_of hy]
    obtain ⟨z, hz, e2⟩ := T.inv _ _ hk
    have e3 := T.key z hz
    rw [← e2, hk] at e3
    injection e3 with e3
    rw [e3]
    refine List.mem_map.2 ⟨z, ?_, rfl⟩
    have h4 := hh z hz
    have h5 : Maps.has (DataW.map l) (T.lit z) = true := List.any_eq_true.2 ⟨_, hp, by rw [rg_of hy, e3]; exact WideAt.sameKey_self (T.islit z hz)⟩
    rw [h5] at h4
    cases hL : L z with
    | none => rw [hL] at h4; cases h4
    | some v => exact hM z v hz hL
  have e9 : Maps.size (DataW.map l) = l.length := rfl
  rw [e9] at h2
  simp only [List.length_map] at this
  omega
section
variable {ops : Array Oper} {rest : List Oper} {o : Oper} {a : Act} {Q : Exit → Act → World → Prop}
omit [DecidableEq κ] in
theorem wpList_gm_range (hg : o.guard = none) (m : Operand) (t e : TypeId) (hop : o.op = Op.range t m) (h : Gm P w T ok B c L) (ht : P.underlying t = some (.map k e)) (hm : a.eval m = .map (some B))
    (hK : ∀ w', GmR P w' T ok B w.heap.size c L [] c → Below w.heap.size w w' → w'.heap.size = w.heap.size + 1 → wpList P ops Q rest (a.put o.dst (.pointer (some ⟨w.heap.size, 0, none⟩))) w') : wpList P ops Q (o :: rest) a w := by
  obtain ⟨D, h1, h2, hh, h3⟩ := h.hasB
  refine wpList_range_own w hg m t hop k e T.keyed ht (gR ok) B c D hm h1 fun w' q1 q2 q3 => hK w' ⟨⟨D, Maps.has D, by rw [h2] at q1; exact q1, fun x hx => ?_, fun x v hx hv => ((h3 x hx).2 v hv).2⟩, fun p hp => by simp at hp, List.nodup_nil, by simp⟩ ((Below.refl _ _).grown q2 (Nat.le_refl _) (fun _ e => by cases e)) q3
  rw [hh x hx]; simp
theorem wpList_gm_next {r cnt : Nat} {met : List (κ × Value)} (hg : o.guard = none) (it : Operand) (hop : o.op = Op.next it false) (h : GmR P w T ok B r c L met cnt)
    (hit : a.eval it = .pointer (some ⟨r, 0, none⟩))
    (hDone : cnt = 0 → (∀ x v, T.ok x → L x = some v → x ∈ met.map Prod.fst) → wpList P ops Q rest (a.put o.dst (.tuple #[.bool false])) w)
    (hMore : ∀ (x : κ) (v : Value) (w' : World) (cnt' : Nat), T.ok x → ok v → L x = some v → GmR P w' T ok B r c L (met ++ [(x, v)]) cnt' → cnt' < cnt → w.grownBy w' (some r) → w'.heap.size = w.heap.size →
      (Instr.entry (.pointer (some ⟨r, 0, none⟩))).run P w' = .ok (.tuple #[T.enc x, v]) w' → wpList P ops Q rest (a.put o.dst (.tuple #[.bool true, T.enc x, v])) w') : wpList P ops Q (o :: rest) a w := by
  obtain ⟨⟨D, left, h1, h2, h3⟩, hkeys, hnd, hall⟩ := h
  refine wpList_next_ranges (α := κ) (β := Value) w hg it hop k T.keyed (gR ok) T.enc id (fun key kl' hkey => ?_) (fun v y hv => ⟨v, rfl⟩) B r c D left cnt hit h1 (fun h0 hl => hDone h0 fun x v hx hL => ?_) (fun x v kl' y w' cnt' hkey hl hv hat hr hlt hgr hsz2 hen => ?_)
  · obtain ⟨x, _, e1⟩ := T.inv key kl' hkey
    exact ⟨x, e1⟩
  · have := hl (T.lit x)
    by_cases hm : x ∈ met.map Prod.fst
    · exact hm
    · have h4 := (h2 x hx).2 ⟨by rw [hL]; rfl, hm⟩
      rw [this] at h4; cases h4
  · obtain ⟨x', hx', e1⟩ := T.inv _ _ hkey
    obtain rfl := T.encInj _ _ e1
    have hkl : kl' = T.lit x := by
      have := T.key x hx'
      rw [hkey] at this
      injection this
    subst hkl
    obtain ⟨hov, ey⟩ := gR_inv hv
    have hLx : L x = some v := by
      cases hL : L x with
      | none =>
        have := ((h2 x hx').1 hl).1
        rw [hL] at this; cases this
      | some u =>
        have q1 := h3 x u hx' hL (.lit (.bool true))
        rw [hat, ey] at q1
        injection q1 with q1
        rw [← q1]; rfl
    have hnm : x ∉ met.map Prod.fst := ((h2 x hx').1 hl).2
    refine hMore x v w' cnt' hx' hov hLx ⟨⟨D, _, hr, fun y hy => ?_, h3⟩, fun p hp => ?_, ?_, ?_⟩ hlt hgr hsz2 hen
    · rw [Bool.and_eq_true, h2 y hy, lit_same hy hx']
      simp only [List.map_append, List.map_cons, List.map_nil, List.mem_append, List.mem_singleton, not_or, Bool.not_eq_true', decide_eq_false_iff_not]
      exact ⟨fun h => ⟨h.1.1, h.1.2, h.2⟩, fun h => ⟨⟨h.1, h.2.1⟩, h.2.2⟩⟩
    · rcases List.mem_append.1 hp with hp | hp
      · exact hkeys p hp
      · obtain rfl := List.mem_singleton.1 hp
        exact ⟨hx', hLx, hov⟩
    · rw [List.map_append, List.nodup_append]
      refine ⟨hnd, by simp, fun a ha b hb => ?_⟩
      simp at hb
      subst hb
      exact fun e => hnm (e ▸ ha)
    · simp only [List.length_append, List.length_cons, List.length_nil]
      omega
end
omit [DecidableEq κ] in
theorem GmR.keeps {w' : World} {r cnt : Nat} {met : List (κ × Value)} (h : GmR P w T ok B r c L met cnt) (h1 : w'.heap[B]? = w.heap[B]?) (h2 : w'.heap[r]? = w.heap[r]?) : GmR P w' T ok B r c L met cnt := by
  obtain ⟨⟨D, left, ⟨es, clock, since, seen, c0, q1, q2, q3, q4, q5, q6⟩, q7⟩, hk, hn, ha⟩ := h
  exact ⟨⟨D, left, ⟨es, clock, since, seen, c0, h1.trans q1, q2, q3, q4, h2.trans q5, q6⟩, q7⟩, hk, hn, ha⟩
omit [DecidableEq κ] in
theorem GmR.lt {r cnt : Nat} {met : List (κ × Value)} (h : GmR P w T ok B r c L met cnt) : B < w.heap.size ∧ r < w.heap.size := by
  obtain ⟨⟨D, left, ⟨es, clock, since, seen, c0, q1, q2, q3, q4, q5, q6⟩, q7⟩, hk, hn, ha⟩ := h
  exact ⟨heap_lt q1, heap_lt q5⟩
omit [DecidableEq κ] in
theorem GmR.ne {r cnt : Nat} {met : List (κ × Value)} (h : GmR P w T ok B r c L met cnt) : r ≠ B := by
  obtain ⟨⟨D, left, h1, _⟩, _⟩ := h
  exact h1.ne
omit [DecidableEq κ] in
theorem GmR.left_eq {r cnt : Nat} {met : List (κ × Value)} (h : GmR P w T ok B r c L met cnt) : w.rangeLeft B r = cnt := by
  obtain ⟨⟨D, left, h1, _⟩, _⟩ := h
  exact h1.left_eq
end
/-- Keys that are arrays of bytes. -/
def arrT {P : Program} {k e : TypeId} {N : Nat} (A : ArrKey P k e N) (he : P.underlying e = some (.int .u8)) (hsz : ∃ m, P.types.size = m + 1) : KeyT P k (List Int) where
  ok := KeyOk N
  enc := kv
  lit := kl
  keyed := Keyed.of_law A.law
  islit := fun _ _ => trivial
  key := fun _ h => keyOf_arr A he hsz h
  inj := fun _ _ h h' e => kl_inj h h' e
  encInj := fun x y h => by
    unfold kv at h
    injection h with h
    have e2 := congrArg Array.toList h
    simp only at e2
    exact (List.map_inj_right fun x y h => by injection h).1 e2
  inv := fun _ _ h => keyOf_arr_inv A he hsz h
/-- Keys that are numbers. -/
def intT {P : Program} {k : TypeId} {q : IntKind} (hk : P.underlying k = some (.int q)) : KeyT P k Int where
  ok := fun x => (Lit.int q x).wf = true
  enc := Value.int q
  lit := Lit.int q
  keyed := int_keyed hk
  islit := fun _ _ => trivial
  key := fun _ h => keyOf_int_mk hk h
  inj := fun _ _ _ _ e => by injection e
  encInj := fun _ _ e => by injection e
  inv := fun _ _ h => by
    obtain ⟨x, e, _, hw⟩ := keyOf_int_inv hk h
    exact ⟨x, hw, e⟩
end Go.Proofs.YtodhaaaodmcplaaGreat
