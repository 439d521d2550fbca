/- The law MapsClear (layer 23): it returns true at every input. Printed by genNq.py. -/
import Derived.Test.YtodhaaaodmcplaaGreatNs
import Derived.Test.YtodhaaaodmcplaaGreatMd
set_option linter.all false
namespace Go.Proofs.YtodhaaaodmcplaaGreat
open Go.RowKit Go.Maps Go.WideMaps
theorem i64_bd {x : Int} (h : (Lit.int .i64 x).wf = true) : -9223372036854775808 ≤ x ∧ x ≤ 9223372036854775807 := by
  have hmin : IntKind.i64.min = -9223372036854775808 := rfl
  have hmax : IntKind.i64.max = 9223372036854775807 := rfl
  simp only [Lit.wf, Bool.and_eq_true, decide_eq_true_eq, hmin, hmax] at h
  omega
/-- Two maps side by side, made since W. -/
structure Tw (W w : World) (x mx y my : Nat) (sx sy : MS) : Prop where
  a : Ms W.heap.size w x mx sx
  b : Ms W.heap.size w y my sy
  ne1 : x ≠ y
  ne2 : mx ≠ my
  old : Below W.heap.size W w
theorem Tw.go {W w w2 : World} {x mx y my : Nat} {sx sy : MS} (h : Tw W w x mx y my sx sy) (hb : Below w.heap.size w w2) : Tw W w2 x mx y my sx sy :=
  ⟨h.a.go hb, h.b.go hb, h.ne1, h.ne2, h.old.trans (hb.mono h.old.size)⟩
theorem Tw.left {W w w2 : World} {x mx y my : Nat} {sx sy s : MS} (h : Tw W w x mx y my sx sy) (hO : OutM W.heap.size w w2 x mx s) : Tw W w2 x mx y my s sy :=
  ⟨hO.1, h.b.other h.a hO.2 h.ne1 h.ne2, h.ne1, h.ne2, h.old.trans (hO.2.below (fun k e => by rcases e with rfl | rfl; exact h.a.lo.1; exact h.a.lo.2) h.old.size)⟩
theorem Tw.right {W w w2 : World} {x mx y my : Nat} {sx sy s : MS} (h : Tw W w x mx y my sx sy) (hO : OutM W.heap.size w w2 y my s) : Tw W w2 x mx y my sx s :=
  ⟨h.a.other h.b hO.2 h.ne1.symm h.ne2.symm, hO.1, h.ne1, h.ne2, h.old.trans (hO.2.below (fun k e => by rcases e with rfl | rfl; exact h.b.lo.1; exact h.b.lo.2) h.old.size)⟩
/-- A block of their own kind is none of theirs. -/
theorem Ms.slice {n0 : Nat} {w w2 : World} {p mb q : Nat} {st : MS} {cs : Array Value} (h : Ms n0 w p mb st) (hq : w.heap[q]? = some (.cells cs 33 (0, 0))) (hk : Keeps (fun k => k = q) w w2) : Ms n0 w2 p mb st := by
  obtain ⟨A, h⟩ := h
  refine ⟨A, h.keeps hk fun k e => ?_⟩
  subst e
  exact ⟨fun e => cells_ne hq h.blk (by decide) e, gm_ne hq h.map, fun cs z e => cells_ne hq e (by decide) rfl⟩
theorem wpList_binG {P : Program} {ops : Array Oper} {rest : List Oper} {op : Oper} {a : Act} {w : World} {Q : Exit → Act → World → Prop} (hg : Region.wanted op (yielded ops a.tmps) = true) (b : BinOp) (t t2 : TypeId) (x y : Operand) (ho : op.op = .binOp b t x y t2) (hb : b ≠ .eql ∧ b ≠ .neq) (u v : Value) (hx : a.eval x = u) (hy : a.eval y = v) (r : Value)
    (hr : (binOp b t u v).run P w = .ok r w) (h : wpList P ops Q rest (a.put op.dst r) w) : wpList P ops Q (op :: rest) a w :=
  BigFrame.wpList_want hg fun K hK => by
    subst hx hy
    have hg : eqGuard b t x y (a.eval x) (a.eval y) = pure () := by
      cases b <;> first | exact absurd rfl hb.1 | exact absurd rfl hb.2 | rfl
    unfold Oper.wp execOp
    simp only [ho, Sem.run_bind, hg, Sem.run_pure, hr, Result.andThen_ok]
    exact hK _ _ h
theorem run_shlu (t : Nat) (h : t ≤ 8) (w : World) : (binOp .shl 3 (.int .i64 1) (.int .u64 (t : Int))).run Tryz.prog w = .ok (.int .i64 ((2 ^ t : Nat) : Int)) w := by
  rcases (by omega : t = 0 ∨ t = 1 ∨ t = 2 ∨ t = 3 ∨ t = 4 ∨ t = 5 ∨ t = 6 ∨ t = 7 ∨ t = 8) with rfl | rfl | rfl | rfl | rfl | rfl | rfl | rfl | rfl
  all_goals kernel_rfl
theorem bits1 (t : Nat) (h : t < 8) : bitsV t (t + 1) = ((2 ^ t : Nat) : Int) := by
  unfold bitsV
  rw [Nat.pow_succ]
  omega
theorem slC_set {k : List Int} (h : k.length = 32) (o m m2 : Int) : (slC k o m).set 33 (.int .i64 m2) = slC k o m2 := by
  unfold slC
  rw [List.set_append, if_neg (by rw [u8l_len, h]; omega), u8l_len, h]
  rfl
theorem run_shlb (t : Nat) (h : t < 8) (w : World) : (binOp .shl 3 (.int .i64 1) (.int .u64 (t : Int))).run Tryz.prog w = .ok (.int .i64 (bitsV t (t + 1))) w := by
  rw [bits1 t h]
  exact run_shlu t (by omega) w
theorem clear_two {F : Mp1} {a c k : Nat} (hc : c ≤ k) : clearF (clearF F (a + c) (a + k)) a (a + c) = clearF F a (a + k) := clear_comp2 (by omega) (by omega)
theorem sameItems (L : List Itm) (hL : ∀ x ∈ L, OkIt x) (hn : L.length ≤ 100000) (A A' : Option Addr) (c c' B B' : Nat) (w : World) (ha : SArr w B A L.length 73 fun i => cellsIt (elI L i)) (ha' : SArr w B' A' L.length 73 fun i => cellsIt (elI L i)) :
    Calls Tryz.prog 12 #[.slice A L.length c, .slice A' L.length c'] w fun e w' => e = .returned (.bool true) ∧ Below w.heap.size w w' :=
  (sameIt (elI L) A A' L.length c c' B B' w (by omega) ha ha').mono fun e w' ⟨h1, m, h2⟩ => ⟨h1, h2 ▸ below_drewN (Below.refl _ _) m⟩
end Go.Proofs.YtodhaaaodmcplaaGreat
