/- The law UsageSums (layer 18): it returns true at every input. -/
import Derived.Test.YthhmhcfahlnmpaaUg
import Derived.Test.YthhmhcfahlnmpaaUr
import Derived.Laws.AppendOwnNone
import Derived.Laws.OwnMore
namespace Go.Proofs.Ythhmhcfahlnmpaa
open Go.RowKit
section
variable {P : Program} {w : World} {ops : Array Oper} {rest : List Oper} {o : Oper} {a : Act} {Q : Exit → Act → World → Prop}
/-- append to a row that the call owns, whatever the source: nil too. -/
theorem wp_append_any {K : Act → World → Prop} (s x : Operand) (t : TypeId) (ho : o.op = .call { callee := .builtin .append, args := #[s, x], argTypes := #[t, t] })
    (base : Nat) (e : TypeId) (i : TypeInfo) (z : Value) (size bytes : Nat) (ht : P.underlying t = some (.slice e)) (hi : P.info? e = some i) (hz : i.zero = some z)
    (hsize : i.size = size) (hby : i.bytes = bytes) (hzs : z.cells.size = size) (hsz : 0 < size)
    (v : Value) (n : Nat) (xs : List Value) (hs : a.eval s = v) (hown : w.ownsRow base e size v n xs)
    (A : Option Addr) (m c : Nat) (news : List Value) (hx : a.eval x = .slice A m c) (hA : A = none → m = 0 ∧ c = 0) (hl : news.length = m * size) (hnews : ∀ ad, A = some ad → ∀ j u, news[j]? = some u → w.cell? (ad.add j) = some u) (h1 : ∀ u ∈ news, u.oneCell' = true)
    (h63 : n + m ≤ maxLen) (hbytes : (n + m) * bytes ≤ 140737488355328) (hbase : base ≤ w.heap.size)
    (h : ∀ v' w', w'.ownsRow base e size v' (n + m) (xs ++ news) → w.grownBy w' v.ownBlock → K (a.put o.dst v') w') : o.wp P a w K Q := by
  cases A with
  | none =>
    obtain ⟨rfl, rfl⟩ := hA rfl
    have hn : news = [] := List.eq_nil_of_length_eq_zero (by rw [hl, Nat.zero_mul])
    subst hn
    have hrun := run_append_owned_none (P := P) (w := w) base t o.type e i size ht hi v n xs hown
    have hk := h v w (by rw [List.append_nil]; exact hown) ⟨rfl, rfl, rfl, Nat.le_refl _, fun _ _ _ => rfl⟩
    unfold Oper.wp
    simp [execOp, ho, resolve, invoke, builtin, hs, hx, hrun, Result.andThen]
    exact hk
  | some ad => exact wp_append_own w s x t ho base e i z size bytes ht hi hz hsize hby hzs hsz v n xs hs hown ad m c news hx hl (hnews ad rfl) h1 h63 hbytes hbase fun v' w' h2 h3 _ => h v' w' h2 h3
end
theorem flatS_cat (F G : Nat → Pl) (K : Nat) : ∀ L, flatS (fun i => encP (F i)) K ++ flatS (fun i => encP (G i)) L = flatS (fun i => encP (catL K F G i)) (K + L)
  | 0 => by
    rw [Nat.add_zero]
    show flatS _ K ++ [] = _
    rw [List.append_nil]
    exact flatS_congr fun j hj => by rw [catL, if_pos hj]
  | L + 1 => by
    rw [← Nat.add_assoc, flatS, flatS, ← List.append_assoc, flatS_cat F G K L]
    have e : catL K F G (K + L) = G L := by rw [catL, if_neg (by omega), Nat.add_sub_cancel_left]
    rw [e]
theorem infoB : (Try.prog.info? 4).map (fun i => (i.zero, i.size, i.bytes)) = some (some (.bool false), 1, 1) := by kernel_rfl
set_option maxHeartbeats 1000000 in
theorem copyPl (L : Nat → Pl) (A : Option Addr) (n c : Nat) (w : World) (hn : n ≤ 1000000) (ha : SArr w w.heap.size A n 4 (fun i => encP (L i))) (hA : A = none → n = 0 ∧ c = 0) :
    Calls Try.prog 21 #[.slice A n c] w fun e w' => ∃ v, e = .returned v ∧ w'.ownsRow w.heap.size 42 4 v n (flatS (fun i => encP (L i)) n) ∧ Below w.heap.size w w' := by
  obtain ⟨i0, hi, hz0, hz1, hz2⟩ := infoParts infoP
  have HA := Lib.hid hA
  have HH := Lib.hid ha
  have HL : Hid ((flatS (fun i => encP (L i)) n).length = n * 4) := Lib.hid (flatS_len (wideP L) n)
  have HO := Lib.hid (oneP L n)
  clear hA ha
  go_enter Try.func21, Try.ntmps21
  go_wp2_with (at_builtin; refine BigFrame.wpList_want rfl fun K hK => wp_append_any _ _ 24 rfl w.heap.size 42 i0 (.agg #[.int .i64 0, .int .i64 0, .int .i64 0, .int .i64 0]) 4 32 Try.underlying24 hi hz0 hz1 hz2 rfl (by decide) _ 0 [] rfl (World.ownsRow_nil _ _ _ _) A n c (flatS (fun i => encP (L i)) n) rfl HA.out HL.out (HH.out.cellsAt (wideP L)) HO.out (by unfold maxLen; omega) (by omega) (Nat.le_refl _) fun v' w3 hown hgr => hK _ _ ?_)
  go_ret
  exact ⟨v', rfl, by simpa using hown, (Below.refl _ _).grown hgr (Nat.le_refl _) fun k e => by cases e⟩
/-- What holds all along. -/
structure St (g : Geo) (L : Nat → Pl) (n : Nat) (w : World) (b : Nat) (A2 : Option Addr) (M c2 R N : Nat) (wr : World) (f : Nat → Bool) : Prop where
  bel : Below w.heap.size w wr
  geo : wr.heap[b]? = some (.cells (gcs g) 23 (0, 0))
  used : wr.ownsRow w.heap.size 3 1 (.slice A2 M c2) M ((List.range M).map fun k : Nat => Value.int .i64 (cntP g L k n))
  taken : wr.ownsRow w.heap.size 4 1 (.slice (some ⟨R, 0, none⟩) N N) N (boolRow f N)
section
variable {g : Geo} {L : Nat → Pl} {n : Nat} {w : World} {b : Nat} {A2 : Option Addr} {M c2 R N : Nat} {wr : World} {f : Nat → Bool}
theorem St.go {w' : World} (h : St g L n w b A2 M c2 R N wr f) (hb : Below wr.heap.size wr w') : St g L n w b A2 M c2 R N w' f :=
  ⟨h.bel.trans (hb.mono h.bel.size), (hb.block b (heap_lt h.geo)).trans h.geo, (Keeps.fresh (S := fun _ => False) hb).row h.used (fun _ _ h => h), (Keeps.fresh (S := fun _ => False) hb).row h.taken (fun _ _ h => h)⟩
theorem St.drewN (h : St g L n w b A2 M c2 R N wr f) (k : Nat) : St g L n w b A2 M c2 R N (wr.drewN k) f := h.go (below_drewN (Below.refl _ _) k)
theorem St.set {X : Nat} {f' : Nat → Bool} (h : St g L n w b A2 M c2 R N wr f) (h1 : f' X = true) (ho : ∀ j, j < N → j ≠ X → f' j = f j) : St g L n w b A2 M c2 R N (wr.setCell ⟨R, X, none⟩ (.bool true)) f' := by
  have hs := h.taken.stored X (.bool true)
  rw [boolRow_set h1 ho] at hs
  have hk : Keeps (fun x => x = R) wr (wr.setCell ⟨R, X, none⟩ (.bool true)) := Keeps.setCell _ _ ⟨R, X, none⟩ _ rfl
  exact ⟨h.bel.setCell (row_lt h.taken (k := R) rfl).1 _, hk.heap h.geo (fun e => rows_neG h.taken (e ▸ h.geo) (by decide)), hk.row h.used (fun k hk e => rows_neS h.used h.taken (by decide) k hk (by rw [e]; rfl)), hs.1⟩
theorem St.congr {f' : Nat → Bool} (h : St g L n w b A2 M c2 R N wr f) (e : ∀ j, j < N → f j = f' j) : St g L n w b A2 M c2 R N wr f' :=
  ⟨h.bel, h.geo, h.used, by rw [← boolRow_congr e]; exact h.taken⟩
end
def OkTo (g : Geo) (L : Nat → Pl) (k : Nat) : Prop := (∀ i, i < k → okP g (L i) = true) ∧ ∀ i, i < k → ∀ m, m < i → meet (L i) (L m) = false
/-- A place, of which so many sectors have been gone through. -/
def Gone (g : Geo) (L : Nat → Pl) (k q : Nat) : Prop := ∀ t, t < q → inV g ((L k).a + t) = inV g (L k).a ∧ (inV g (L k).a).2 = true ∧ covB L k ((L k).a + t) = false
theorem gone_all {g : Geo} {L : Nat → Pl} {k q : Nat} (hr : rightB g = true) (h1 : 1 ≤ (L k).n) (h2 : (L k).n ≤ g.G) (hq : (L k).n = q) (hg : Gone g L k q) (ho : OkTo g L k) : OkTo g L (k + 1) := by
  obtain ⟨a0, a1, _⟩ := hg 0 (by omega)
  obtain ⟨x, y, hxy⟩ : ∃ x y, inV g (L k).a = (x, y) := ⟨_, _, rfl⟩
  rw [hxy] at a1
  dsimp only at a1
  subst a1
  obtain ⟨kk, rfl, -⟩ := in_true hr hxy
  have hok : okP g (L k) = true := ok_of (k := kk) hr h1 h2 fun s hs => by rw [(hg s (by omega)).1, hxy]
  have hm := no_meet (L := L) (i := k) (fun s hs => (hg s (by omega)).2.2) h1 (fun m hm => (ok_bd hr (ho.1 m hm)).1)
  refine ⟨fun i hi => ?_, fun i hi m hmi => ?_⟩
  · rcases Nat.lt_or_ge i k with h | h
    · exact ho.1 i h
    · obtain rfl : i = k := by omega
      exact hok
  · rcases Nat.lt_or_ge i k with h | h
    · exact ho.2 i h m hmi
    · obtain rfl : i = k := by omega
      exact hm m hmi
theorem okTo_fine {g : Geo} {L : Nat → Pl} {n : Nat} (h : OkTo g L n) : fineB g L n = true := fine_all h.1 h.2
theorem out_fine {g : Geo} {L : Nat → Pl} {n k q : Nat} (hr : rightB g = true) (hk : k < n) (hq : (q : Int) < (L k).n) (h : ¬ ((inV g ((L k).a + q)).2 = true ∧ (inV g (L k).a).2 = true ∧ (inV g ((L k).a + q)).1 = (inV g (L k).a).1)) : fineB g L n = false := by
  refine no_fine hk ?_
  rw [Bool.eq_false_iff]
  intro hok
  have h1 := ok_all hr hok hq
  have h2 : (inV g (L k).a).2 = true := by
    simp only [okP, Bool.and_eq_true] at hok
    exact hok.1.1
  exact h ⟨by rw [h1]; exact h2, h2, by rw [h1]⟩
end Go.Proofs.Ythhmhcfahlnmpaa
