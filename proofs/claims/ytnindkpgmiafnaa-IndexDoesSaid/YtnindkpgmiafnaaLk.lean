/- Layer 22 (index): an index and the document's, side by side, in blocks of their own. -/
import Derived.Test.YtnindkpgmiafnaaUd
import Derived.Test.YtnindkpgmiafnaaPick
namespace Go.Proofs.Ytnindkpgmiafnaa
open Go.RowKit Go.Maps Go.WideMaps
/-- The index p (its map B) holds R, the document's p2 holds R2; all that lay below n0 lies as in w0. -/
structure Two (n0 : Nat) (w0 w : World) (p B base p2 : Nat) (R R2 : List Ent) : Prop where
  ix : Ix w p B R
  rx : ∃ v, Rx w base p2 v R2
  ne1 : p ≠ p2
  ne2 : B ≠ p2
  lt1 : p < base
  lt2 : B < base
  lt3 : p2 < base
  le : base ≤ w.heap.size
  g1 : n0 ≤ p
  g2 : n0 ≤ B
  g3 : n0 ≤ p2
  old : Below n0 w0 w
  n0le : n0 ≤ w.heap.size
theorem Two.below {n0 : Nat} {w0 w w' : World} {p B base p2 : Nat} {R R2 : List Ent} (h : Two n0 w0 w p B base p2 R R2) (hb : Below w.heap.size w w') : Two n0 w0 w' p B base p2 R R2 := by
  obtain ⟨v, hv⟩ := h.rx
  exact ⟨h.ix.below hb, ⟨v, hv.below hb⟩, h.ne1, h.ne2, h.lt1, h.lt2, h.lt3, Nat.le_trans h.le hb.size, h.g1, h.g2, h.g3, h.old.trans (hb.mono h.n0le), Nat.le_trans h.n0le hb.size⟩
theorem Two.turn {n0 : Nat} {w0 w w' : World} {p B base p2 : Nat} {R R2 R' : List Ent} (h : Two n0 w0 w p B base p2 R R2) (hi : Ix w' p B R') (hk : Keeps (fun z => z = B) w w') : Two n0 w0 w' p B base p2 R' R2 := by
  obtain ⟨v, hv⟩ := h.rx
  have hl2 := h.lt2
  exact ⟨hi, ⟨v, hv.keeps hk (fun e => h.ne2 e.symm) (fun k hk2 e => by have := (row_lt hv.row hk2).1; omega)⟩, h.ne1, h.ne2, h.lt1, h.lt2, h.lt3, Nat.le_trans h.le hk.size, h.g1, h.g2, h.g3, h.old.trans (hk.below (fun k e => by rw [e]; exact h.g2) h.n0le), Nat.le_trans h.n0le hk.size⟩
theorem Two.turn2 {n0 : Nat} {w0 w w' : World} {p B base p2 : Nat} {R R2 R' : List Ent} (h : Two n0 w0 w p B base p2 R R2) (hr : RxOut base p2 R' w w') : Two n0 w0 w' p B base p2 R R' := by
  obtain ⟨hv, hk⟩ := hr
  exact ⟨h.ix.keeps (fun x hx => hk.block x (by rcases hx with rfl | rfl; exact h.ix.lt.1; exact h.ix.lt.2) (fun e => by rcases hx with rfl | rfl; exact h.ne1 e; exact h.ne2 e)), hv, h.ne1, h.ne2, h.lt1, h.lt2, h.lt3, Nat.le_trans h.le hk.size, h.g1, h.g2, h.g3, h.old.trans (hk.below (fun k e => by rw [e]; exact h.g3) h.n0le), Nat.le_trans h.n0le hk.size⟩
theorem i64_bd {x : Int} (h : (Lit.int .i64 x).wf = true) : -9223372036854775808 ≤ x ∧ x ≤ 9223372036854775807 := by
  have hmin : IntKind.i64.min = -9223372036854775808 := rfl
  have hmax : IntKind.i64.max = 9223372036854775807 := rfl
  simp only [Lit.wf, Bool.and_eq_true, decide_eq_true_eq, hmin, hmax] at h
  omega
theorem leafsPl : leafs Try.prog 5 28 = some [.i64, .i64, .i64, .i64] := by kernel_rfl
theorem keyPl : Try.prog.keyTypeAt 5 28 = true := by kernel_rfl
theorem eqrPl (q : Pl) (hq : mayB q = true ∨ q = ⟨0, 0, 0, 0⟩) (u : World) : EqRun Try.prog 28 (plc q).toArray (plc q).toArray u true := by
  have hw : (Lit.int .i64 q.a).wf = true ∧ (Lit.int .i64 q.n).wf = true ∧ (Lit.int .i64 q.u).wf = true ∧ (Lit.int .i64 q.r).wf = true := by
    rcases hq with h | rfl
    · rw [may_true] at h
      exact ⟨wf_i64 (by omega), wf_i64 (by omega), wf_i64 (by omega), wf_i64 (by omega)⟩
    · exact ⟨rfl, rfl, rfl, rfl⟩
  have hf : Fits (plc q) [.i64, .i64, .i64, .i64] := ⟨⟨_, rfl, hw.1⟩, ⟨_, rfl, hw.2.1⟩, ⟨_, rfl, hw.2.2.1⟩, ⟨_, rfl, hw.2.2.2⟩, trivial⟩
  obtain ⟨r, hr, hiff⟩ := eql_fits (P := Try.prog) (t := 28) (m := 5) (d := 5) (by omega) keyPl leafsPl (xs := (plc q).toArray) (ys := (plc q).toArray) (by simp [Value.formed, Try.underlying28, plc]; kernel_rfl) (by simp [Value.formed, Try.underlying28, plc]; kernel_rfl) (by simpa using hf) (by simpa using hf) u
  rw [hiff.2 rfl] at hr
  exact ⟨hr⟩
theorem get_may {k : List Int} {R : List Ent} : mayB ((lookR k R).getD ⟨0, 0, 0, 0⟩) = true ∨ (lookR k R).getD ⟨0, 0, 0, 0⟩ = ⟨0, 0, 0, 0⟩ := by
  cases h : lookR k R with
  | none => exact .inr rfl
  | some p => exact .inl (look_may h)
section
variable {n0 : Nat} {w0 w : World} {p B base p2 : Nat} {R R2 : List Ent}
def TwoO (n0 : Nat) (w0 : World) (p B base p2 : Nat) (R R2 : List Ent) (S : Nat → Prop) (w w' : World) : Prop := Two n0 w0 w' p B base p2 R R2 ∧ Keeps S w w'
theorem two_add (k : List Int) (q : Pl) (hk : KeyOk 32 k) (h : Two n0 w0 w p B base p2 R R2) (hn : R.length ≤ 1000) : Calls Try.prog 10 #[.pointer (some ⟨p, 0, none⟩), kv k, plv q] w fun e w' => e = .returned (.int .i64 (addE R k q)) ∧ TwoO n0 w0 p B base p2 (addR R k q) R2 (fun z => z = B) w w' :=
  (add10 p B R k q w hk h.ix (by omega)).mono fun e w' ⟨h1, h2, h3⟩ => ⟨h1, h.turn h2 h3, h3⟩
theorem two_move (k : List Int) (x : Int) (hk : KeyOk 32 k) (h : Two n0 w0 w p B base p2 R R2) (hn : R.length ≤ 1000) : Calls Try.prog 15 #[.pointer (some ⟨p, 0, none⟩), kv k, .int .i64 x] w fun e w' => e = .returned (.int .i64 (moveE R k x)) ∧ TwoO n0 w0 p B base p2 (moveR R k x) R2 (fun z => z = B) w w' :=
  (move15 p B R k x w hk h.ix (by omega)).mono fun e w' ⟨h1, h2, h3⟩ => ⟨h1, h.turn h2 h3, h3⟩
theorem two_want (k : List Int) (x : Int) (hk : KeyOk 32 k) (hx : -9223372036854775808 ≤ x ∧ x ≤ 9223372036854775807) (h : Two n0 w0 w p B base p2 R R2) (hn : R.length ≤ 1000) : Calls Try.prog 17 #[.pointer (some ⟨p, 0, none⟩), kv k, .int .i64 x] w fun e w' => e = .returned (.int .i64 (wantE R k x)) ∧ TwoO n0 w0 p B base p2 (wantR R k x) R2 (fun z => z = B) w w' :=
  (want17 p B R k x w hk h.ix (by omega) hx).mono fun e w' ⟨h1, h2, h3⟩ => ⟨h1, h.turn h2 h3, h3⟩
theorem two_radd (k : List Int) (q : Pl) (hk : KeyOk 32 k) (h : Two n0 w0 w p B base p2 R R2) (hn : R2.length ≤ 1000) : Calls Try.prog 14 #[.pointer (some ⟨p2, 0, none⟩), kv k, plv q] w fun e w' => e = .returned (.int .i64 (addE R2 k q)) ∧ TwoO n0 w0 p B base p2 R (addR R2 k q) (fun z => z = p2) w w' := by
  obtain ⟨v, hv⟩ := h.rx
  exact (radd14 base p2 v R2 k q w hk hv (by omega) h.le).mono fun e w' ⟨h1, h2⟩ => ⟨h1, h.turn2 h2, h2.2⟩
theorem two_rmove (k : List Int) (x : Int) (hk : KeyOk 32 k) (h : Two n0 w0 w p B base p2 R R2) (hn : R2.length ≤ 1000) : Calls Try.prog 16 #[.pointer (some ⟨p2, 0, none⟩), kv k, .int .i64 x] w fun e w' => e = .returned (.int .i64 (moveE R2 k x)) ∧ TwoO n0 w0 p B base p2 R (moveR R2 k x) (fun z => z = p2) w w' := by
  obtain ⟨v, hv⟩ := h.rx
  exact (rmove16 base p2 v R2 k x w hk hv (by omega) h.le).mono fun e w' ⟨h1, h2⟩ => ⟨h1, h.turn2 h2, h2.2⟩
theorem two_rwant (k : List Int) (x : Int) (hk : KeyOk 32 k) (hx : -9223372036854775808 ≤ x ∧ x ≤ 9223372036854775807) (h : Two n0 w0 w p B base p2 R R2) (hn : R2.length ≤ 1000) : Calls Try.prog 18 #[.pointer (some ⟨p2, 0, none⟩), kv k, .int .i64 x] w fun e w' => e = .returned (.int .i64 (wantE R2 k x)) ∧ TwoO n0 w0 p B base p2 R (wantR R2 k x) (fun z => z = p2) w w' := by
  obtain ⟨v, hv⟩ := h.rx
  exact (rwant18 base p2 v R2 k x w hk hv (by omega) h.le hx).mono fun e w' ⟨h1, h2⟩ => ⟨h1, h.turn2 h2, h2.2⟩
theorem two_get (k : List Int) (hk : KeyOk 32 k) (h : Two n0 w0 w p B base p2 R R2) (hn : R.length ≤ 1000) : Calls Try.prog 19 #[.pointer (some ⟨p, 0, none⟩), kv k] w fun e w' => e = .returned (.tuple #[plv ((lookR k R).getD ⟨0, 0, 0, 0⟩), .bool (lookR k R).isSome]) ∧ Below w.heap.size w w' := get19 p B R k w hk h.ix (by omega)
theorem two_rget (k : List Int) (hk : KeyOk 32 k) (h : Two n0 w0 w p B base p2 R R2) (hn : R2.length ≤ 1000) : Calls Try.prog 20 #[.pointer (some ⟨p2, 0, none⟩), kv k] w fun e w' => e = .returned (.tuple #[plv ((lookR k R2).getD ⟨0, 0, 0, 0⟩), .bool (lookR k R2).isSome]) ∧ Below w.heap.size w w' := by
  obtain ⟨v, hv⟩ := h.rx
  exact rget20 base p2 v R2 k w hk hv (by omega) h.le
end
end Go.Proofs.Ytnindkpgmiafnaa
