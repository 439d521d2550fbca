/- A set of numbers in a map that the call makes (layer 19): looked up and put. -/
import Derived.Test.YtgoblbmekhcekaaI
import Derived.Maps.OwnOps
import Derived.Maps.Views
namespace Go.Proofs.Ytgoblbmekhcekaa
open Go.RowKit Go.Maps
section
variable {H : Type} {P : Program}
theorem plainElem_bool_inv {e : TypeId} {v : Value} {d : DataW H} {ps : List MemPlace} (he : P.underlying e = some .bool) (h : plainElem P e v = some (d, ps)) : ∃ x, v = .bool x ∧ d = .lit (.bool x) := by
  unfold plainElem at h
  rw [he] at h
  cases v <;> simp at h
  exact ⟨_, rfl, h.1.symm⟩
theorem wpList_lookup_own_bool (w : World) {ops : Array Oper} {rest : List Oper} {o : Oper} {a : Act} {Q : Exit → Act → World → Prop}
    (hg : o.guard = none) (m x : Operand) (t : TypeId) (hop : o.op = Op.lookup t m x false)
    (k e : TypeId) (K : Keyed P k) (ht : P.underlying t = some (.map k e)) (he : P.underlying e = some .bool) (hz : (zeroValue e).run P w = .ok (.bool false) w) (b n : Nat) (D : DataW H)
    (hm : a.eval m = .map (some b)) (hown : w.ownsMap P k (plainElem P e) b n D) (key : Value) (kl : Lit) (hx : a.eval x = key) (hkey : keyOf P k key = some kl) (c : Bool) (hc : D.atKey kl (.lit (.bool false)) = .lit (.bool c))
    (hK : wpList P ops Q rest (a.put o.dst (.bool c)) w) : wpList P ops Q (o :: rest) a w := by
  refine wpList_plain hg fun K' hK' => ?_
  obtain ⟨v, ps, hrun, hv⟩ := hown.lookup K ht hz (plainElem_bool he false) hkey
  obtain ⟨c2, rfl, hc2⟩ := plainElem_bool_inv he hv
  rw [hc] at hc2
  injection hc2 with hc2
  injection hc2 with hc2
  subst hc2
  unfold Oper.wp
  simp [execOp, hop, hm, hx, hrun, Result.andThen]
  exact hK' _ _ hK
end
/-- Block B holds a set of numbers: S. -/
def Tk (w : World) (B n : Nat) (S : Int → Bool) : Prop := ∃ D : DataW Unit, w.ownsMap Try.prog 3 (plainElem Try.prog 4) B n D ∧ IsMap D ∧ ∀ x, (Lit.int .i64 x).wf = true → D.atKey (.int .i64 x) (.lit (.bool false)) = .lit (.bool (S x))
theorem Tk.keeps {w w' : World} {B n : Nat} {S : Int → Bool} (h : Tk w B n S) (hk : w'.heap[B]? = w.heap[B]?) : Tk w' B n S := by
  obtain ⟨D, ⟨es, clock, hb, F, hs, hD⟩, h2⟩ := h
  exact ⟨D, ⟨es, clock, hk.trans hb, F, hs, hD⟩, h2⟩
theorem Tk.lt {w : World} {B n : Nat} {S : Int → Bool} (h : Tk w B n S) : B < w.heap.size := by
  obtain ⟨D, ⟨es, clock, hb, F, hs, hD⟩, h2⟩ := h
  exact heap_lt hb
theorem Tk.mono {w : World} {B n n' : Nat} {S : Int → Bool} (h : Tk w B n S) (hn : n ≤ n') : Tk w B n' S := by
  obtain ⟨D, h1, h2⟩ := h
  exact ⟨D, h1.mono hn, h2⟩
theorem Tk.eq {w : World} {B n : Nat} {S S' : Int → Bool} (h : Tk w B n S) (hS : ∀ x, S x = S' x) : Tk w B n S' := by
  obtain ⟨D, h1, h2, h3⟩ := h
  exact ⟨D, h1, h2, fun x hx => by rw [h3 x hx, hS x]⟩
theorem tk_made (w : World) : Tk (w.alloc (.map #[] 0)) w.heap.size 0 (fun _ => false) :=
  ⟨.map [], World.ownsMap_made w _ _ _, isMap_empty, fun x _ => rfl⟩
theorem keyed3 : Keyed Try.prog 3 := int_keyed Try.underlying3
theorem zero4 (w : World) : (zeroValue 4).run Try.prog w = .ok (.bool false) w := by kernel_rfl
/-- A number is looked up. -/
theorem wpList_tk_look (w : World) {ops : Array Oper} {rest : List Oper} {o : Oper} {a : Act} {Q : Exit → Act → World → Prop}
    (hg : o.guard = none) (m x : Operand) (hop : o.op = Op.lookup 30 m x false) (B n : Nat) (S : Int → Bool) (h : Tk w B n S) (hm : a.eval m = .map (some B)) (y : Int) (hx : a.eval x = .int .i64 y) (hy : (Lit.int .i64 y).wf = true) (c : Bool) (hc : S y = c)
    (hK : wpList Try.prog ops Q rest (a.put o.dst (.bool c)) w) : wpList Try.prog ops Q (o :: rest) a w := by
  obtain ⟨D, h1, h2, h3⟩ := h
  exact wpList_lookup_own_bool w hg m x 30 hop 3 4 keyed3 Try.underlying30 Try.underlying4 (zero4 w) B n D hm h1 _ _ hx (keyOf_int_mk Try.underlying3 hy) c (by rw [h3 y hy, hc]) hK
/-- A number is put. -/
theorem wpList_tk_put (w : World) {ops : Array Oper} {rest : List Oper} {o : Oper} {a : Act} {Q : Exit → Act → World → Prop}
    (hg : o.guard = none) (m x v : Operand) (hop : o.op = Op.mapUpdate 30 m x v) (B n : Nat) (S : Int → Bool) (h : Tk w B n S) (hn : n < maxLen) (hm : a.eval m = .map (some B)) (y : Int) (hx : a.eval x = .int .i64 y) (hv : a.eval v = .bool true) (hy : (Lit.int .i64 y).wf = true)
    (hK : ∀ w', Tk w' B (n + 1) (fun z => S z || decide (z = y)) → w.grownBy w' (some B) → wpList Try.prog ops Q rest (a.put o.dst undef) w') : wpList Try.prog ops Q (o :: rest) a w := by
  obtain ⟨D, h1, h2, h3⟩ := h
  refine wpList_mapUpdate_own w hg m x v 30 hop 3 4 keyed3 Try.underlying30 (plainElem Try.prog 4) B n D hm h1 hn _ _ (.int .i64 y) hx hv (keyOf_int_mk Try.underlying3 hy) (.lit (.bool true)) [] (plainElem_bool Try.underlying4 true) fun w' q1 q2 => hK w' ⟨_, q1, h2.put _ _, fun z hz => ?_⟩ q2
  by_cases e : z = y
  · subst e
    rw [atKey_put_same h2 (by trivial)]
    simp
  · rw [atKey_put_other (by simpa using e), h3 z hz]
    simp [e]
end Go.Proofs.Ytgoblbmekhcekaa
