/- append at rows of structs, whatever the source; a call in a region that draws its order; one cell of a row that is set. -/
import Derived.Test.YtodhaaaodmcplaaGreatBig2
import Derived.Laws.AppendOwnNone
import Derived.Laws.OwnMore
set_option linter.all false
namespace Go.Proofs.YtodhaaaodmcplaaGreat
open Go.RowKit
section
variable {P : Program} {w : World} {ops : Array Oper} {rest : List Oper} {o : Oper} {a : Act} {Q : Exit → Act → World → Prop}
/-- append to a row that the call owns, whatever the source: nil too; the operation may be guarded. -/
theorem wpList_append_any (hg : Region.wanted o (yielded ops a.tmps) = true) (s x : Operand) (t : TypeId) (ho : o.op = .call { callee := .builtin .append, args := #[s, x], argTypes := #[t, t] })
    (base : Nat) (e : TypeId) (i : TypeInfo) (z : Value) (size bytes : Nat) (ht : P.underlying t = some (.slice e)) (hi : P.info? e = some i) (hz : i.zero = some z)
    (hsize : i.size = size) (hby : i.bytes = bytes) (hzs : z.cells.size = size) (hsz : 0 < size)
    (v : Value) (n : Nat) (xs : List Value) (hs : a.eval s = v) (hown : w.ownsRow base e size v n xs)
    (A : Option Addr) (m c : Nat) (news : List Value) (hx : a.eval x = .slice A m c) (hA : A = none → m = 0 ∧ c = 0) (hl : news.length = m * size) (hnews : ∀ ad, A = some ad → ∀ j u, news[j]? = some u → w.cell? (ad.add j) = some u) (h1 : ∀ u ∈ news, u.oneCell' = true)
    (h63 : n + m ≤ maxLen) (hbytes : (n + m) * bytes ≤ 140737488355328) (hbase : base ≤ w.heap.size)
    (h : ∀ v' w', w'.ownsRow base e size v' (n + m) (xs ++ news) → w.grownBy w' v.ownBlock → wpList P ops Q rest (a.put o.dst v') w') : wpList P ops Q (o :: rest) a w := by
  refine BigFrame.wpList_want hg fun K hK => ?_
  cases A with
  | none =>
    obtain ⟨rfl, rfl⟩ := hA rfl
    have hn : news = [] := List.eq_nil_of_length_eq_zero (by rw [hl, Nat.zero_mul])
    subst hn
    have hrun := run_append_owned_none (P := P) (w := w) base t o.type e i size ht hi v n xs hown
    have hk := hK _ _ (h v w (by rw [List.append_nil]; exact hown) ⟨rfl, rfl, rfl, Nat.le_refl _, fun _ _ _ => rfl⟩)
    unfold Oper.wp
    simp [execOp, ho, resolve, invoke, builtin, hs, hx, hrun, Result.andThen]
    exact hk
  | some ad => exact wp_append_own w s x t ho base e i z size bytes ht hi hz hsize hby hzs hsz v n xs hs hown ad m c news hx hl (hnews ad rfl) h1 h63 hbytes hbase fun v' w' h2 h3 _ => hK _ _ (h v' w' h2 h3)
/-- A call of a Go function, one operation. -/
theorem wp_callF {K : Act → World → Prop} (g : FuncId) (args : Array Operand) (ts : Array TypeId) (ho : o.op = .call { callee := .value (.func g), args := args, argTypes := ts })
    (eg : ∀ args w, (callFunc g args).run P w = .ok (.enter g args) w) (vs : Array Value) (hv : args.map a.eval = vs)
    (h : Calls P g vs w fun e w' => ∃ v, e = .returned v ∧ K (a.put o.dst v) w') : o.wp P a w K Q := by
  subst hv
  have h1 : (execOp a.eval o).run P w = .ok (.enter g (args.map a.eval)) w := by
    simp [execOp, ho, resolve, invoke, eg, Act.eval, Value.func, Deferred.ofValue, Result.andThen]
  unfold Oper.wp
  rw [h1, Oper.upon_enter]
  exact h.mono fun e w' ⟨v, he, hk⟩ => by subst he; exact hk
/-- A call of two operands. -/
theorem wp_callF2 {K : Act → World → Prop} (g : FuncId) (x y : Operand) (ts : Array TypeId) (ho : o.op = .call { callee := .value (.func g), args := #[x, y], argTypes := ts })
    (eg : ∀ args w, (callFunc g args).run P w = .ok (.enter g args) w) (u v : Value) (hu : a.eval x = u) (hv : a.eval y = v)
    (h : Calls P g #[u, v] w fun e w' => ∃ r, e = .returned r ∧ K (a.put o.dst r) w') : o.wp P a w K Q :=
  wp_callF g #[x, y] ts ho eg #[u, v] (by simp [hu, hv]) h
theorem wp_callF3 {K : Act → World → Prop} (g : FuncId) (x y z : Operand) (ts : Array TypeId) (ho : o.op = .call { callee := .value (.func g), args := #[x, y, z], argTypes := ts })
    (eg : ∀ args w, (callFunc g args).run P w = .ok (.enter g args) w) (u v t : Value) (hu : a.eval x = u) (hv : a.eval y = v) (ht : a.eval z = t)
    (h : Calls P g #[u, v, t] w fun e w' => ∃ r, e = .returned r ∧ K (a.put o.dst r) w') : o.wp P a w K Q :=
  wp_callF g #[x, y, z] ts ho eg #[u, v, t] (by simp [hu, hv, ht]) h
end
theorem flatS_set {F G : Nat → List Value} {s i q : Nat} {u : Value} (hF : Wide s F) (hi : G i = (F i).set q u) (hq : q < s) (ho : ∀ j, j ≠ i → G j = F j) : ∀ {n : Nat}, i < n → (flatS F n).set (i * s + q) u = flatS G n
  | n + 1, hn => by
    rw [flatS, flatS]
    by_cases h : i = n
    · subst h
      rw [List.set_append, if_neg (by rw [flatS_len hF]; omega), flatS_len hF, Nat.add_sub_cancel_left, hi]
      rw [flatS_congr (F := F) (G := G) fun j hj => (ho j (by omega)).symm]
    · have h2 : i < n := by omega
      have h3 := Nat.mul_le_mul_right s (show i + 1 ≤ n from h2)
      rw [Nat.add_mul, Nat.one_mul] at h3
      rw [List.set_append, if_pos (by rw [flatS_len hF]; omega), flatS_set hF hi hq ho h2, ho n (by omega)]
theorem flatS_append (F G : Nat → List Value) (K : Nat) : ∀ L, flatS F K ++ flatS G L = flatS (fun i => if i < K then F i else G (i - K)) (K + L)
  | 0 => by
    rw [Nat.add_zero]
    show flatS F K ++ [] = _
    rw [List.append_nil]
    exact flatS_congr fun j hj => by rw [if_pos hj]
  | L + 1 => by
    rw [← Nat.add_assoc, flatS, flatS, ← List.append_assoc, flatS_append F G K L, if_neg (by omega), Nat.add_sub_cancel_left]
end Go.Proofs.YtodhaaaodmcplaaGreat
