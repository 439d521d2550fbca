/- The document's space (layer 19): keep. No condition but where it lies. Printed by genM.py. -/
import Derived.Test.YtgoblbmekhcekaaL
import Derived.Deep.CutRange
namespace Go.Proofs.Ytgoblbmekhcekaa
open Go.RowKit
theorem bools_one {l : List Bool} : ∀ u ∈ l.map Value.bool, u.oneCell' = true := by
  intro u hu
  obtain ⟨x, _, rfl⟩ := List.mem_map.1 hu
  rfl
section
variable {P : Program}
theorem yields_build {ops : Array Oper} {S : World → Prop} {op : Oper} {a : Act} (hw : Region.wanted op (yielded ops a.tmps) = true) (t : TypeId) (parts : List (Nat × Operand)) (ho : op.op = .build t parts.toArray) (ps : List (Nat × Value)) (hps : (parts.map fun x => (x.1, a.eval x.2)) = ps) (r : Value)
    (hr : ∀ w, BuildRun P t ps.toArray w r) : YieldsIf P ops S op r a :=
  .inl ⟨hw, fun w _ => by
    have hr := (hr w).run
    rw [← hps] at hr
    unfold execOp
    simp only [ho, List.map_toArray, Sem.run_bind, hr, Result.andThen_ok, Sem.run_pure]⟩
/-- A struct or array goes into a block known whole. -/
theorem wp_store_segK {op : Oper} {a : Act} {w : World} {K : Act → World → Prop} {Q : Exit → Act → World → Prop} (ty : TypeId) (x y : Operand) (ho : op.op = .store ty x y)
    (b o : Nat) (hx : a.eval x = .pointer (some ⟨b, o, none⟩)) (vs : List Value) (hy : a.eval y = .agg vs.toArray) (cur : List Value) (t : TypeId) (hb : w.heap[b]? = some (.cells cur.toArray t (0, 0)))
    (hs : (P.info? ty).map (·.size) = some vs.length) (hfit : o + vs.length ≤ cur.length) (h1 : ∀ v ∈ vs, v.oneCell' = true)
    (h : ∀ w', Hid (w'.heap[b]? = some (.cells (splice cur o vs).toArray t (0, 0)) ∧ Keeps (fun k => k = b) w w') → w'.heap.size = w.heap.size → K (a.put op.dst undef) w') : op.wp P a w K Q := by
  unfold Oper.wp execOp
  simp only [ho, hx, hy, Instr.storeAt, Instr.sureAddr, Sem.run_bind, Sem.run_pure, Result.andThen_ok, run_storeVar_seg w b o ty vs cur t hb hfit hs h1]
  exact h _ (Lib.hid ⟨setRow_heap w b _ _ t _ hb, Keeps.setRow w b _⟩) (by simp)
end
theorem build53 (g : Geo) (q k c : Nat) (o f : Int) (u : World) : BuildRun Try.prog 53 #[(0, gv g), (1, .slice (some ⟨q, 0, none⟩) k c), (2, .int .i64 o), (3, .int .i64 f)] u (.agg #[.int .i64 g.V, .int .i64 g.S, .int .i64 g.G, .int .i64 g.U, .int .i64 g.J, .slice (some ⟨q, 0, none⟩) k c, .int .i64 o, .int .i64 f, .slice none 0 0]) := ⟨by kernel_rfl⟩
theorem info53 : (Try.prog.info? 53).map (·.size) = some 9 := by kernel_rfl
theorem rfC_one {g : Geo} {q k c : Nat} {n : Nw} : ∀ v ∈ rfC g (.slice (some ⟨q, 0, none⟩) k c) n (.slice none 0 0), v.oneCell' = true := by
  intro v hv
  simp only [rfC, List.mem_cons, List.not_mem_nil, or_false] at hv
  rcases hv with rfl | rfl | rfl | rfl | rfl | rfl | rfl | rfl | rfl <;> rfl
theorem info53z : (Try.prog.info? 53).map (fun i => (i.zero, i.size, i.bytes)) = some (some (.agg #[.int .i64 0, .int .i64 0, .int .i64 0, .int .i64 0, .int .i64 0, .slice none 0 0, .int .i64 0, .int .i64 0, .slice none 0 0]), 9, 104) := by kernel_rfl
theorem splice_len53 (cur : List Value) (o : Nat) (vs : List Value) (h : o + vs.length ≤ cur.length) : (splice cur o vs).length = cur.length := by
  unfold splice; simp only [List.length_append, List.length_take, List.length_drop]; omega
/-- An element of a row set. -/
theorem own_splice {w w' : World} {base : Nat} {e : TypeId} {size g n cap : Nat} {xs ys : List Value} {cur : Array Value} (h : w.ownsRow base e size (.slice (some ⟨g, 0, none⟩) (n + 1) cap) (n + 1) xs) (hc : w.heap[g]? = some (.cells cur e (0, 0))) (hy : ys.length = size)
    (hw : w'.heap[g]? = some (.cells (splice cur.toList (n * size) ys).toArray e (0, 0))) : w'.ownsRow base e size (.slice (some ⟨g, 0, none⟩) (n + 1) cap) (n + 1) (xs.take (n * size) ++ ys) := by
  have hl := h.1
  have hm : (n + 1) * size = n * size + size := Nat.succ_mul n size
  rcases h.2 with ⟨h1, _⟩ | ⟨g2, cap2, cur2, h1, h2, h3, h4, h5, h6, h7⟩
  · simp at h1
  · injection h1 with h1 h8 h9
    injection h1 with h1
    injection h1 with h1
    subst h1 h9
    rw [hc] at h3
    injection h3 with h3
    injection h3 with h3
    subst h3
    have hcl : n * size + size ≤ cur.toList.length := by rw [Array.length_toList, h6, ← hm]; exact Nat.mul_le_mul_right _ h4
    rw [hm] at hl h7
    refine ⟨by rw [List.length_append, List.length_take, hm]; omega, .inr ⟨g, cap, _, rfl, h2, hw, h4, h5, ?_, ?_⟩⟩
    · simp only [List.size_toArray]
      rw [splice_len53 _ _ _ (by omega), Array.length_toList, h6]
    · show (splice cur.toList (n * size) ys).take ((n + 1) * size) = _
      have e1 : (cur.toList.take (n * size)).length = n * size := by rw [List.length_take]; omega
      have e2 : (cur.toList.take (n * size) ++ ys).length = (n + 1) * size := by rw [List.length_append, e1, hm, hy]
      rw [splice, ← List.append_assoc, List.take_left' e2, ← h7, List.take_take, Nat.min_eq_left (by omega)]
theorem keep_final {w wc u3 u4 u6 : World} {Y : Nat → Prop} {b x g2 cap : Nat} {g : Geo} {n : Nw} {was : List Nw} {fv fv' row : Value} {ws : List (Value × Nw)} (HY : Y b) (HYr : ∀ k, row.ownBlock = some k → Y k) (KR : Rf wc (fun k => Y k ∧ k < w.heap.size) b g n was fv row ws) (KF : Fr wc (fun k => w.heap.size ≤ k ∧ k ≠ x) fv' n.fr) (KB : Below w.heap.size w wc) (B3 : Below wc.heap.size wc u3)
    (hgr : u3.grownBy u4 row.ownBlock) (hat : row.ownBlock = some g2 ∨ g2 = u3.heap.size) (hk : Keeps (fun k => k = g2 ∨ k = b) u4 u6) (hb : u6.heap[b]? = some (.cells (rfC g fv n (.slice (some ⟨g2, 0, none⟩) (ws.length + 1) cap)).toArray 53 (0, 0)))
    (hown : u6.ownsRow 0 53 9 (.slice (some ⟨g2, 0, none⟩) (ws.length + 1) cap) (ws.length + 1) (wsC g ws ++ rfC g fv' n (.slice none 0 0))) : RGoes w Y b g n (was ++ [n]) undef (.returned undef) u6 := by
  have hs3 : wc.heap.size ≤ u3.heap.size := B3.size
  have hsc : w.heap.size ≤ wc.heap.size := KB.size
  have hbl := KR.yb.2
  have hg2 : g2 ≠ b := by
    rcases hat with h | h
    · exact fun e => KR.apart (e ▸ h)
    · omega
  have k34 : Keeps (fun k => row.ownBlock = some k) u3 u4 := Keeps.grown hgr fun k h => h
  have kall : Keeps (fun k => row.ownBlock = some k ∨ k = b) wc u6 := ((Keeps.fresh (S := fun k => row.ownBlock = some k ∨ k = b) B3).trans k34 fun k _ h => .inl h).trans hk fun k hkl h => by
    rcases h with rfl | rfl
    · rcases hat with h | h
      · exact .inl h
      · omega
    · exact .inr rfl
  have frk : ∀ v l, Fr wc (fun k => (Y k ∧ k < w.heap.size) ∧ k ≠ b ∧ row.ownBlock ≠ some k) v l → Fr u6 (fun k => (Y k ∨ w.heap.size ≤ k) ∧ k ≠ b ∧ (Value.slice (some ⟨g2, 0, none⟩) (ws.length + 1) cap).ownBlock ≠ some k) v l := fun v l h =>
    (h.keeps kall fun k hk hs => by rcases hs with hs | hs; · exact hk.2.2 hs
                                    · exact hk.2.1 hs).mono fun k hk _ => ⟨.inl hk.1.1, hk.2.1, fun e => by
      have e2 : g2 = k := Option.some.inj e
      rcases hat with h | h
      · exact hk.2.2 (e2 ▸ h)
      · have := hk.1.2; omega⟩
  refine ⟨rfl, ⟨fv, .slice (some ⟨g2, 0, none⟩) (ws.length + 1) cap, ws ++ [(fv', n)], ⟨hb, ?_, fun e => hg2 (Option.some.inj e), .inl HY, fun k e => ?_, frk _ _ KR.fr, fun p hp => ?_, ?_, KR.ok, fun m hm => ?_, KR.right⟩⟩, ?_⟩
  · rw [List.length_append, List.length_singleton, wsC_app]
    have : wsC g [(fv', n)] = rfC g fv' n (.slice none 0 0) := by simp [wsC]
    rw [this]; exact hown
  · have e2 : g2 = k := Option.some.inj e
    rcases hat with h | h
    · exact .inl (HYr k (e2 ▸ h))
    · right; omega
  · rcases List.mem_append.1 hp with hp | hp
    · exact frk _ _ (KR.frs p hp)
    · obtain rfl := List.mem_singleton.1 hp
      have KF2 := KF.mono (Z' := fun k => w.heap.size ≤ k ∧ k < wc.heap.size) fun k hk hl => ⟨hk.1, hl⟩
      refine (KF2.keeps kall fun k hk hs => ?_).mono fun k hk _ => ⟨.inr hk.1, by omega, fun e => ?_⟩
      · rcases hs with hs | hs
        · have := (KR.yr k hs).2; omega
        · omega
      · have e2 : g2 = k := Option.some.inj e
        rcases hat with h | h
        · have := (KR.yr g2 h).2; omega
        · omega
  · rw [List.map_append, KR.eq]; rfl
  · rcases List.mem_append.1 hm with hm | hm
    · exact KR.okw m hm
    · obtain rfl := List.mem_singleton.1 hm
      exact KR.ok
  · exact (Keeps.fresh (S := Y) KB).trans (kall) fun k hkl h => by
      rcases h with h | h
      · exact HYr k h
      · exact h ▸ HY
/-- What stands behind the first statement: a copy. -/
def KRel (w : World) (Y : Nat → Prop) (b : Nat) (g : Geo) (n : Nw) (was : List Nw) (fv row : Value) (ws : List (Value × Nw)) (s2 : Value) (w' : World) : Prop :=
  ∃ x fv', s2 = .pointer (some ⟨x, 0, none⟩) ∧ w'.heap[x]? = some (.cells (rfC g fv' n (.slice none 0 0)).toArray 53 (0, 0)) ∧ Fr w' (fun k => w.heap.size ≤ k ∧ k ≠ x) fv' n.fr ∧ w.heap.size ≤ x ∧ Rf w' (fun k => Y k ∧ k < w.heap.size) b g n was fv row ws ∧ Below w.heap.size w w'
set_option maxRecDepth 100000 in
set_option maxHeartbeats 2000000 in
theorem rkeep39 (w : World) (Y : Nat → Prop) (b : Nat) (g : Geo) (n : Nw) (was : List Nw) (fv row : Value) (ws : List (Value × Nw)) (h : Rf w Y b g n was fv row ws) (hwas : was.length ≤ 100000) :
    Calls Try.prog 39 #[.pointer (some ⟨b, 0, none⟩)] w (RGoes w Y b g n (was ++ [n]) undef) := by
  obtain ⟨q, cap, hq, -⟩ := id h.fr
  subst hq
  obtain ⟨i0, hi, hz0, hz1, hz2⟩ := infoParts info4
  have HI := Lib.hid (And.intro hi (And.intro hz0 (And.intro hz1 hz2)))
  have H := Lib.hid h
  have hlen : 2 ≤ n.fr.length ∧ n.fr.length ≤ 256 := ⟨by have := h.ok.len; have := h.fine.s1; omega, h.ok.le h.fine⟩
  obtain ⟨L, hL⟩ : ∃ L, L = n.fr.length := ⟨_, rfl⟩
  obtain ⟨o, ho⟩ : ∃ o, o = n.op := ⟨_, rfl⟩
  obtain ⟨f, hf⟩ : ∃ f, f = n.fl := ⟨_, rfl⟩
  rw [← hL] at hlen
  have HL := Lib.hid hL
  have HOF := Lib.hid (And.intro ho hf)
  have hfr := h.fr
  have rfOf : Hid (∀ u : World, Below w.heap.size w u → Rf u (fun k => Y k ∧ k < w.heap.size) b g n was (.slice (some ⟨q, 0, none⟩) n.fr.length cap) row ws) := Lib.hid fun u hu => (h.mono fun k hk hl => ⟨hk, hl⟩).go hu
  have sOf : Hid (∀ u : World, Below w.heap.size w u → u.cell? ⟨b, 0, none⟩ = some (.int .i64 g.V) ∧ u.cell? ⟨b, 1, none⟩ = some (.int .i64 g.S) ∧ u.cell? ⟨b, 2, none⟩ = some (.int .i64 g.G) ∧ u.cell? ⟨b, 3, none⟩ = some (.int .i64 g.U) ∧ u.cell? ⟨b, 4, none⟩ = some (.int .i64 g.J) ∧ u.cell? ⟨b, 5, none⟩ = some (.slice (some ⟨q, 0, none⟩) L cap) ∧ u.cell? ⟨b, 6, none⟩ = some (.int .i64 o) ∧ u.cell? ⟨b, 7, none⟩ = some (.int .i64 f)) := Lib.hid fun u hu => by
    obtain ⟨c0, c1, c2, c3, c4, c5, c6, c7, c8⟩ := rf_cells (rfOf.out u hu).blk
    rw [ho, hf, hL]
    exact ⟨c0, c1, c2, c3, c4, c5, c6, c7⟩
  have hcop : Hid (∀ u : World, Below w.heap.size w u → ∀ j v, (n.fr.map Value.bool)[j]? = some v → u.cell? ((⟨q, 0, none⟩ : Addr).add j) = some v) := Lib.hid fun u hu j v hj => by
    obtain ⟨q2, cap2, e, -, -, hc⟩ := (rfOf.out u hu).fr
    injection e with e
    injection e with e
    injection e with e
    subst e
    rw [List.getElem?_map] at hj
    obtain ⟨x, hx, rfl⟩ := Option.map_eq_some_iff.1 hj
    rw [Addr.add_mid, Nat.zero_add]
    exact hc j x hx
  clear h hi hz0 hz1 hz2 hL hfr ho hf
  go_enter Try.func39, Try.ntmps39
  go_upto_region 0 with fail
  go_cut [2] from 3 to 21 (fun s2 w' => KRel w Y b g n was (.slice (some ⟨q, 0, none⟩) n.fr.length cap) row ws s2 w')
  case first =>
    have B1 : Hid (Below w.heap.size w w.drew) := Lib.hid (below_drewN (Below.refl _ w) 1)
    refine wp_region_held_drew (S := fun w' => w'.cell? ⟨b, 0, none⟩ = some (.int .i64 g.V) ∧ w'.cell? ⟨b, 1, none⟩ = some (.int .i64 g.S) ∧ w'.cell? ⟨b, 2, none⟩ = some (.int .i64 g.G) ∧ w'.cell? ⟨b, 3, none⟩ = some (.int .i64 g.U) ∧ w'.cell? ⟨b, 4, none⟩ = some (.int .i64 g.J) ∧ w'.cell? ⟨b, 5, none⟩ = some (.slice (some ⟨q, 0, none⟩) L cap) ∧ w'.cell? ⟨b, 6, none⟩ = some (.int .i64 o) ∧ w'.cell? ⟨b, 7, none⟩ = some (.int .i64 f)) follows (sOf.out _ B1.out) (fun hHeld => ?_)
    obtain ⟨u1, hu1⟩ : ∃ u, u = w.drew := ⟨_, rfl⟩
    rw [← hu1] at B1 hHeld ⊢
    clear hu1
    refine wpAnyH_take (i := 0) (v := ?_) (by simp only [List.getElem?_toArray, List.getElem?_cons_zero]; rfl) (by kernel_rfl) (by kernel_rfl) (by kernel_rfl) (by intro _ _ _ h; exact h) (Or.inl ⟨by rfl, ?_⟩) hHeld ?_
    rotate_left
    · (intro w hSw; (try dsimp only at hSw); go_simp; try with_reducible rfl)
    try simp only [Act.put, List.setIfInBounds_toArray, List.set_cons_zero, List.set_cons_succ]
    refine wpAnyH_take (i := 1) (v := ?_) (by simp only [List.getElem?_toArray, List.getElem?_cons_zero, List.getElem?_cons_succ]; rfl) (by kernel_rfl) (by kernel_rfl) (by kernel_rfl) (by intro _ _ _ h; exact h) (Or.inl ⟨by rfl, ?_⟩) hHeld ?_
    rotate_left
    · (intro w hSw; (try dsimp only at hSw); go_simp; try with_reducible rfl)
    try simp only [Act.put, List.setIfInBounds_toArray, List.set_cons_zero, List.set_cons_succ]
    refine wpAnyH_take (i := 2) (v := ?_) (by simp only [List.getElem?_toArray, List.getElem?_cons_zero, List.getElem?_cons_succ]; rfl) (by kernel_rfl) (by kernel_rfl) (by kernel_rfl) (by intro _ _ _ h; exact h) (Or.inl ⟨by rfl, ?_⟩) hHeld ?_
    rotate_left
    · (intro w hSw; (try dsimp only at hSw); go_simp; try with_reducible rfl)
    try simp only [Act.put, List.setIfInBounds_toArray, List.set_cons_zero, List.set_cons_succ]
    refine wpAnyH_take (i := 3) (v := ?_) (by simp only [List.getElem?_toArray, List.getElem?_cons_zero, List.getElem?_cons_succ]; rfl) (by kernel_rfl) (by kernel_rfl) (by kernel_rfl) (by intro _ _ _ h; exact h) (Or.inl ⟨by rfl, ?_⟩) hHeld ?_
    rotate_left
    · (intro w hSw; (try dsimp only at hSw); go_simp; try with_reducible rfl)
    try simp only [Act.put, List.setIfInBounds_toArray, List.set_cons_zero, List.set_cons_succ]
    refine wpAnyH_take (i := 5) (v := ?_) (by simp only [List.getElem?_toArray, List.getElem?_cons_zero, List.getElem?_cons_succ]; rfl) (by kernel_rfl) (by kernel_rfl) (by kernel_rfl) (by intro _ _ _ h; exact h) (Or.inl ⟨by rfl, ?_⟩) hHeld ?_
    rotate_left
    · (intro w hSw; (try dsimp only at hSw); go_simp; try with_reducible rfl)
    try simp only [Act.put, List.setIfInBounds_toArray, List.set_cons_zero, List.set_cons_succ]
    refine wpAnyH_take (i := 6) (v := ?_) (by simp only [List.getElem?_toArray, List.getElem?_cons_zero, List.getElem?_cons_succ]; rfl) (by kernel_rfl) (by kernel_rfl) (by kernel_rfl) (by intro _ _ _ h; exact h) (Or.inl ⟨by rfl, ?_⟩) hHeld ?_
    rotate_left
    · (intro w hSw; (try dsimp only at hSw); go_simp; try with_reducible rfl)
    try simp only [Act.put, List.setIfInBounds_toArray, List.set_cons_zero, List.set_cons_succ]
    refine wpAnyH_take (i := 7) (v := ?_) (by simp only [List.getElem?_toArray, List.getElem?_cons_zero, List.getElem?_cons_succ]; rfl) (by kernel_rfl) (by kernel_rfl) (by kernel_rfl) (by intro _ _ _ h; exact h) (Or.inl ⟨by rfl, ?_⟩) hHeld ?_
    rotate_left
    · (intro w hSw; (try dsimp only at hSw); go_simp; try with_reducible rfl)
    try simp only [Act.put, List.setIfInBounds_toArray, List.set_cons_zero, List.set_cons_succ]
    refine wpAnyH_take (i := 8) (v := ?_) (by simp only [List.getElem?_toArray, List.getElem?_cons_zero, List.getElem?_cons_succ]; rfl) (by kernel_rfl) (by kernel_rfl) (by kernel_rfl) (by intro _ _ _ h; exact h) (Or.inl ⟨by rfl, ?_⟩) hHeld ?_
    rotate_left
    · (intro w hSw; (try dsimp only at hSw); go_simp; try with_reducible rfl)
    try simp only [Act.put, List.setIfInBounds_toArray, List.set_cons_zero, List.set_cons_succ]
    refine wpAnyH_take (i := 10) (v := ?_) (by simp only [List.getElem?_toArray, List.getElem?_cons_zero, List.getElem?_cons_succ]; rfl) (by kernel_rfl) (by kernel_rfl) (by kernel_rfl) (by intro _ _ _ h; exact h) (Or.inl ⟨by rfl, ?_⟩) hHeld ?_
    rotate_left
    · (intro w hSw; (try dsimp only at hSw); go_simp; try with_reducible rfl)
    try simp only [Act.put, List.setIfInBounds_toArray, List.set_cons_zero, List.set_cons_succ]
    refine wpAnyH_take (i := 11) (v := ?_) (by simp only [List.getElem?_toArray, List.getElem?_cons_zero, List.getElem?_cons_succ]; rfl) (by kernel_rfl) (by kernel_rfl) (by kernel_rfl) (by intro _ _ _ h; exact h) (Or.inl ⟨by rfl, ?_⟩) hHeld ?_
    rotate_left
    · (intro w hSw; (try dsimp only at hSw); go_simp; try with_reducible rfl)
    try simp only [Act.put, List.setIfInBounds_toArray, List.set_cons_zero, List.set_cons_succ]
    refine wpAnyH_take (i := 12) (v := ?_) (by simp only [List.getElem?_toArray, List.getElem?_cons_zero, List.getElem?_cons_succ]; rfl) (by kernel_rfl) (by kernel_rfl) (by kernel_rfl) (by intro _ _ _ h; exact h) (Or.inl ⟨by rfl, ?_⟩) hHeld ?_
    rotate_left
    · (intro w hSw; (try dsimp only at hSw); go_simp; try with_reducible rfl)
    try simp only [Act.put, List.setIfInBounds_toArray, List.set_cons_zero, List.set_cons_succ]
    refine wpAnyH_take (i := 13) (v := ?_) (by simp only [List.getElem?_toArray, List.getElem?_cons_zero, List.getElem?_cons_succ]; rfl) (by kernel_rfl) (by kernel_rfl) (by kernel_rfl) (by intro _ _ _ h; exact h) (Or.inl ⟨by rfl, ?_⟩) hHeld ?_
    rotate_left
    · (intro w hSw; (try dsimp only at hSw); go_simp; try with_reducible rfl)
    try simp only [Act.put, List.setIfInBounds_toArray, List.set_cons_zero, List.set_cons_succ]
    refine wpAnyH_take (i := 14) (v := ?_) (by simp only [List.getElem?_toArray, List.getElem?_cons_zero, List.getElem?_cons_succ]; rfl) (by kernel_rfl) (by kernel_rfl) (by kernel_rfl) (by intro _ _ _ h; exact h) (Or.inl ⟨by rfl, ?_⟩) hHeld ?_
    rotate_left
    · (intro w hSw; (try dsimp only at hSw); go_simp; try with_reducible rfl)
    try simp only [Act.put, List.setIfInBounds_toArray, List.set_cons_zero, List.set_cons_succ]
    refine wpAnyH_take (i := 15) (v := ?_) (by simp only [List.getElem?_toArray, List.getElem?_cons_zero, List.getElem?_cons_succ]; rfl) (by kernel_rfl) (by kernel_rfl) (by kernel_rfl) (by intro _ _ _ h; exact h) (Or.inl ⟨by rfl, ?_⟩) hHeld ?_
    rotate_left
    · (intro w hSw; (try dsimp only at hSw); go_simp; try with_reducible rfl)
    try simp only [Act.put, List.setIfInBounds_toArray, List.set_cons_zero, List.set_cons_succ]
    refine wpAnyH_take (i := 16) (v := ?_) (by simp only [List.getElem?_toArray, List.getElem?_cons_zero, List.getElem?_cons_succ]; rfl) (by kernel_rfl) (by kernel_rfl) (by kernel_rfl) (by intro _ _ _ h; exact h) (Or.inl ⟨by rfl, ?_⟩) hHeld ?_
    rotate_left
    · (intro w hSw; (try dsimp only at hSw); go_simp; try with_reducible rfl)
    try simp only [Act.put, List.setIfInBounds_toArray, List.set_cons_zero, List.set_cons_succ]
    refine wpAnyH_take (i := 17) (v := ?_) (by simp only [List.getElem?_toArray, List.getElem?_cons_zero, List.getElem?_cons_succ]; rfl) (by kernel_rfl) (by kernel_rfl) (by kernel_rfl) (by intro _ _ _ h; exact h) (Or.inl ⟨by rfl, ?_⟩) hHeld ?_
    rotate_left
    · (intro w hSw; (try dsimp only at hSw); go_simp; try with_reducible rfl)
    try simp only [Act.put, List.setIfInBounds_toArray, List.set_cons_zero, List.set_cons_succ]
    refine wpAnyH_ready (rs := [4, 19]) (by kernel_rfl) (by simp) ?_
    refine AllReadyH.cons (by simp only [List.getElem?_toArray, List.getElem?_cons_zero, List.getElem?_cons_succ]; rfl) (fun K hK => ?_) (AllReadyH.cons (by simp only [List.getElem?_toArray, List.getElem?_cons_zero, List.getElem?_cons_succ]; rfl) (fun K hK => ?_) (AllReadyH.nil))
    · rw [if_pos (by rfl)]
      go_simp
      obtain ⟨u2, hu⟩ : ∃ u, u = u1.alloc (.cells #[] 4) := ⟨_, rfl⟩
      obtain ⟨h, hh⟩ : ∃ h, h = u1.heap.size := ⟨_, rfl⟩
      have B2 : Hid (Below w.heap.size w u2) := Lib.hid (by rw [hu]; exact B1.out.alloc B1.out.size _)
      have E2 : Hid (u2.ownsRow w.heap.size 4 1 (.slice (some ⟨h, 0, none⟩) 0 0) 0 []) := Lib.hid (by rw [hu, hh]; exact World.ownsRow_lit u1 #[] 0 B1.out.size (Nat.zero_le _) rfl)
      rw [← hu, ← hh]
      clear hu hh
      refine hK.out _ _ (sOf.out u2 B2.out) (fun hHeld => ?_)
      clear hK K
      try simp only [Act.put, List.setIfInBounds_toArray, List.set_cons_zero, List.set_cons_succ]
      refine wpAnyH_ready (rs := [9, 19]) (by kernel_rfl) (by simp) ?_
      refine AllReadyH.cons (by simp only [List.getElem?_toArray, List.getElem?_cons_zero, List.getElem?_cons_succ]; rfl) (fun K hK => ?_) (AllReadyH.cons (by simp only [List.getElem?_toArray, List.getElem?_cons_zero, List.getElem?_cons_succ]; rfl) (fun K hK => ?_) (AllReadyH.nil))
      · rw [if_pos (by rfl)]
        refine wp_append_lies _ (.tmp 7) (.tmp 11) 50 rfl w.heap.size 4 i0 (.bool false) 1 1 Try.underlying50 HI.out.1 HI.out.2.1 HI.out.2.2.1 HI.out.2.2.2 rfl (by omega) _ 0 [] rfl E2.out ⟨q, 0, none⟩ L cap (n.fr.map .bool) rfl (by rw [List.length_map, ← HL.out]; omega) (hcop.out u2 B2.out) bools_one (by omega) (by unfold maxLen; omega) (by omega) B2.out.size _ rfl ?_
        intro q2 cap2 u3 hown hgr hat hlt
        rw [Nat.zero_add] at hown ⊢
        have B3 : Hid (Below w.heap.size w u3) := Lib.hid (B2.out.grown hgr B2.out.size fun k e => (E2.out.lt k e).1)
        have C3 : Hid (Fr u3 (fun k => w.heap.size ≤ k) (.slice (some ⟨q2, 0, none⟩) L cap2) n.fr) := Lib.hid ⟨q2, cap2, by rw [HL.out], (hown.lt q2 rfl).1, hlt, fun j u hj => by rw [World.ownsRow.cellAt hown j (by have := (List.getElem?_eq_some_iff.1 hj).1; have := HL.out; omega), List.nil_append, List.getElem?_map, hj]; rfl⟩
        clear hown hgr hat hlt
        refine hK.out _ _ (sOf.out u3 B3.out) (fun hHeld => ?_)
        clear hK K
        try simp only [Act.put, List.setIfInBounds_toArray, List.set_cons_zero, List.set_cons_succ]
        refine wpAnyH_take (i := 18) (v := _) (by simp only [List.getElem?_toArray, List.getElem?_cons_zero, List.getElem?_cons_succ]; rfl) (by kernel_rfl) (by kernel_rfl) (by kernel_rfl) (by intro _ _ _ h; exact h) (yields_build (by rfl) 53 [(0, .tmp 6), (1, .tmp 12), (2, .tmp 16), (3, .tmp 20)] rfl [(0, gv g), (1, .slice (some ⟨q2, 0, none⟩) L cap2), (2, .int .i64 o), (3, .int .i64 f)] rfl _ (fun w => build53 g q2 L cap2 o f w)) hHeld ?_
        try simp only [Act.put, List.setIfInBounds_toArray, List.set_cons_zero, List.set_cons_succ]
        refine wpAnyH_ready (rs := [19]) (by kernel_rfl) (by simp) ?_
        refine AllReadyH.cons (by simp only [List.getElem?_toArray, List.getElem?_cons_zero, List.getElem?_cons_succ]; rfl) (fun K hK => ?_) (AllReadyH.nil)
        rw [if_pos (by rfl)]
        go_simp
        obtain ⟨u4, hu⟩ : ∃ u, u = u3.alloc (.cells #[.int .i64 0, .int .i64 0, .int .i64 0, .int .i64 0, .int .i64 0, .slice none 0 0, .int .i64 0, .int .i64 0, .slice none 0 0] 53) := ⟨_, rfl⟩
        obtain ⟨x, hx⟩ : ∃ x, x = u3.heap.size := ⟨_, rfl⟩
        have B4 : Hid (Below w.heap.size w u4) := Lib.hid (by rw [hu]; exact B3.out.alloc B3.out.size _)
        have X4 : Hid (u4.heap[x]? = some (.cells #[.int .i64 0, .int .i64 0, .int .i64 0, .int .i64 0, .int .i64 0, .slice none 0 0, .int .i64 0, .int .i64 0, .slice none 0 0] 53 (0, 0)) ∧ w.heap.size ≤ x) := Lib.hid ⟨by rw [hu, hx]; exact heap_new u3 _, by rw [hx]; exact B3.out.size⟩
        have C4 : Hid (Fr u4 (fun k => w.heap.size ≤ k ∧ k ≠ x) (.slice (some ⟨q2, 0, none⟩) L cap2) n.fr) := Lib.hid (by rw [hu]; exact (C3.out.mono (Z' := fun k => w.heap.size ≤ k ∧ k ≠ x) fun k hk hl => ⟨hk, by omega⟩).keeps (Keeps.alloc (fun _ => False) u3 _) (fun _ _ h => h))
        rw [← hu, ← hx]
        clear hu hx
        refine hK.out _ _ (sOf.out u4 B4.out) (fun hHeld => ?_)
        clear hK K
        try simp only [Act.put, List.setIfInBounds_toArray, List.set_cons_zero, List.set_cons_succ]
        refine wpAnyH_ready (rs := [20]) (by kernel_rfl) (by simp) ?_
        refine AllReadyH.cons (by simp only [List.getElem?_toArray, List.getElem?_cons_zero, List.getElem?_cons_succ]; rfl) (fun K hK => ?_) AllReadyH.nil
        rw [if_pos (by rfl)]
        refine wp_store_segK 53 (.tmp 2) (.tmp 21) rfl x 0 rfl (rfC g (.slice (some ⟨q2, 0, none⟩) L cap2) ⟨n.fr, o, f⟩ (.slice none 0 0)) rfl [.int .i64 0, .int .i64 0, .int .i64 0, .int .i64 0, .int .i64 0, .slice none 0 0, .int .i64 0, .int .i64 0, .slice none 0 0] 53 X4.out.1 info53 (by simp [rfC]) rfC_one ?_
        intro u5 H5 hs5
        have B5 : Hid (Below w.heap.size w u5) := Lib.hid (B4.out.trans (H5.out.2.below (fun k e => by subst e; exact X4.out.2) B4.out.size))
        refine hK.out _ _ (sOf.out u5 B5.out) (fun hHeld => ?_)
        clear hK K
        refine wpAnyH_done (by kernel_rfl) ?_ _
        go_wp2_with fail
        go_meet
        refine ⟨x, .slice (some ⟨q2, 0, none⟩) L cap2, rfl, ?_, C4.out.keeps H5.out.2 (fun k hk e => hk.2 e), X4.out.2, rfOf.out u5 B5.out, B5.out⟩
        rw [H5.out.1, splice_all _ _ (by simp [rfC]), HOF.out.1, HOF.out.2]
      · rw [if_pos (by rfl)]
        go_simp
        obtain ⟨u3, hu⟩ : ∃ u, u = u2.alloc (.cells #[.int .i64 0, .int .i64 0, .int .i64 0, .int .i64 0, .int .i64 0, .slice none 0 0, .int .i64 0, .int .i64 0, .slice none 0 0] 53) := ⟨_, rfl⟩
        obtain ⟨x, hx⟩ : ∃ x, x = u2.heap.size := ⟨_, rfl⟩
        have B3 : Hid (Below w.heap.size w u3) := Lib.hid (by rw [hu]; exact B2.out.alloc B2.out.size _)
        have E3 : Hid (u3.ownsRow w.heap.size 4 1 (.slice (some ⟨h, 0, none⟩) 0 0) 0 []) := Lib.hid (by rw [hu]; exact E2.out.alloc _)
        have X3 : Hid (u3.heap[x]? = some (.cells #[.int .i64 0, .int .i64 0, .int .i64 0, .int .i64 0, .int .i64 0, .slice none 0 0, .int .i64 0, .int .i64 0, .slice none 0 0] 53 (0, 0)) ∧ w.heap.size ≤ x ∧ x ≠ h) := Lib.hid ⟨by rw [hu, hx]; exact heap_new u2 _, by rw [hx]; exact B2.out.size, by have := (E2.out.lt h rfl).2; omega⟩
        rw [← hu, ← hx]
        clear hu hx
        refine hK.out _ _ (sOf.out u3 B3.out) (fun hHeld => ?_)
        clear hK K
        try simp only [Act.put, List.setIfInBounds_toArray, List.set_cons_zero, List.set_cons_succ]
        refine wpAnyH_ready (rs := [9]) (by kernel_rfl) (by simp) ?_
        refine AllReadyH.cons (by simp only [List.getElem?_toArray, List.getElem?_cons_zero, List.getElem?_cons_succ]; rfl) (fun K hK => ?_) (AllReadyH.nil)
        rw [if_pos (by rfl)]
        refine wp_append_lies _ (.tmp 7) (.tmp 11) 50 rfl w.heap.size 4 i0 (.bool false) 1 1 Try.underlying50 HI.out.1 HI.out.2.1 HI.out.2.2.1 HI.out.2.2.2 rfl (by omega) _ 0 [] rfl E3.out ⟨q, 0, none⟩ L cap (n.fr.map .bool) rfl (by rw [List.length_map, ← HL.out]; omega) (hcop.out u3 B3.out) bools_one (by omega) (by unfold maxLen; omega) (by omega) B3.out.size _ rfl ?_
        intro q2 cap2 u4 hown hgr hat hlt
        rw [Nat.zero_add] at hown ⊢
        have B4 : Hid (Below w.heap.size w u4) := Lib.hid (B3.out.grown hgr B3.out.size fun k e => (E3.out.lt k e).1)
        have X4 : Hid (u4.heap[x]? = some (.cells #[.int .i64 0, .int .i64 0, .int .i64 0, .int .i64 0, .int .i64 0, .slice none 0 0, .int .i64 0, .int .i64 0, .slice none 0 0] 53 (0, 0)) ∧ w.heap.size ≤ x) := Lib.hid ⟨(hgr.block x (heap_lt X3.out.1) (fun e => X3.out.2.2 (Option.some.inj e))).trans X3.out.1, X3.out.2.1⟩
        have C4 : Hid (Fr u4 (fun k => w.heap.size ≤ k ∧ k ≠ x) (.slice (some ⟨q2, 0, none⟩) L cap2) n.fr) := Lib.hid ⟨q2, cap2, by rw [HL.out], ⟨(hown.lt q2 rfl).1, by rcases hat with e | e; (have e2 : h = q2 := Option.some.inj e; have := X3.out.2.2; omega); (have := heap_lt X3.out.1; omega)⟩, hlt, fun j u hj => by rw [World.ownsRow.cellAt hown j (by have := (List.getElem?_eq_some_iff.1 hj).1; have := HL.out; omega), List.nil_append, List.getElem?_map, hj]; rfl⟩
        clear hown hgr hat hlt
        refine hK.out _ _ (sOf.out u4 B4.out) (fun hHeld => ?_)
        clear hK K
        try simp only [Act.put, List.setIfInBounds_toArray, List.set_cons_zero, List.set_cons_succ]
        refine wpAnyH_take (i := 18) (v := _) (by simp only [List.getElem?_toArray, List.getElem?_cons_zero, List.getElem?_cons_succ]; rfl) (by kernel_rfl) (by kernel_rfl) (by kernel_rfl) (by intro _ _ _ h; exact h) (yields_build (by rfl) 53 [(0, .tmp 6), (1, .tmp 12), (2, .tmp 16), (3, .tmp 20)] rfl [(0, gv g), (1, .slice (some ⟨q2, 0, none⟩) L cap2), (2, .int .i64 o), (3, .int .i64 f)] rfl _ (fun w => build53 g q2 L cap2 o f w)) hHeld ?_
        try simp only [Act.put, List.setIfInBounds_toArray, List.set_cons_zero, List.set_cons_succ]
        refine wpAnyH_ready (rs := [20]) (by kernel_rfl) (by simp) ?_
        refine AllReadyH.cons (by simp only [List.getElem?_toArray, List.getElem?_cons_zero, List.getElem?_cons_succ]; rfl) (fun K hK => ?_) AllReadyH.nil
        rw [if_pos (by rfl)]
        refine wp_store_segK 53 (.tmp 2) (.tmp 21) rfl x 0 rfl (rfC g (.slice (some ⟨q2, 0, none⟩) L cap2) ⟨n.fr, o, f⟩ (.slice none 0 0)) rfl [.int .i64 0, .int .i64 0, .int .i64 0, .int .i64 0, .int .i64 0, .slice none 0 0, .int .i64 0, .int .i64 0, .slice none 0 0] 53 X4.out.1 info53 (by simp [rfC]) rfC_one ?_
        intro u5 H5 hs5
        have B5 : Hid (Below w.heap.size w u5) := Lib.hid (B4.out.trans (H5.out.2.below (fun k e => by subst e; exact X4.out.2) B4.out.size))
        refine hK.out _ _ (sOf.out u5 B5.out) (fun hHeld => ?_)
        clear hK K
        refine wpAnyH_done (by kernel_rfl) ?_ _
        go_wp2_with fail
        go_meet
        refine ⟨x, .slice (some ⟨q2, 0, none⟩) L cap2, rfl, ?_, C4.out.keeps H5.out.2 (fun k hk e => hk.2 e), X4.out.2, rfOf.out u5 B5.out, B5.out⟩
        rw [H5.out.1, splice_all _ _ (by simp [rfC]), HOF.out.1, HOF.out.2]
    · rw [if_pos (by rfl)]
      go_simp
      obtain ⟨u2, hu⟩ : ∃ u, u = u1.alloc (.cells #[.int .i64 0, .int .i64 0, .int .i64 0, .int .i64 0, .int .i64 0, .slice none 0 0, .int .i64 0, .int .i64 0, .slice none 0 0] 53) := ⟨_, rfl⟩
      obtain ⟨x, hx⟩ : ∃ x, x = u1.heap.size := ⟨_, rfl⟩
      have B2 : Hid (Below w.heap.size w u2) := Lib.hid (by rw [hu]; exact B1.out.alloc B1.out.size _)
      have X2 : Hid (u2.heap[x]? = some (.cells #[.int .i64 0, .int .i64 0, .int .i64 0, .int .i64 0, .int .i64 0, .slice none 0 0, .int .i64 0, .int .i64 0, .slice none 0 0] 53 (0, 0)) ∧ w.heap.size ≤ x) := Lib.hid ⟨by rw [hu, hx]; exact heap_new u1 _, by rw [hx]; exact B1.out.size⟩
      rw [← hu, ← hx]
      clear hu hx
      refine hK.out _ _ (sOf.out u2 B2.out) (fun hHeld => ?_)
      clear hK K
      try simp only [Act.put, List.setIfInBounds_toArray, List.set_cons_zero, List.set_cons_succ]
      refine wpAnyH_ready (rs := [4]) (by kernel_rfl) (by simp) ?_
      refine AllReadyH.cons (by simp only [List.getElem?_toArray, List.getElem?_cons_zero, List.getElem?_cons_succ]; rfl) (fun K hK => ?_) (AllReadyH.nil)
      rw [if_pos (by rfl)]
      go_simp
      obtain ⟨u3, hu⟩ : ∃ u, u = u2.alloc (.cells #[] 4) := ⟨_, rfl⟩
      obtain ⟨h, hh⟩ : ∃ h, h = u2.heap.size := ⟨_, rfl⟩
      have B3 : Hid (Below w.heap.size w u3) := Lib.hid (by rw [hu]; exact B2.out.alloc B2.out.size _)
      have E3 : Hid (u3.ownsRow w.heap.size 4 1 (.slice (some ⟨h, 0, none⟩) 0 0) 0 []) := Lib.hid (by rw [hu, hh]; exact World.ownsRow_lit u2 #[] 0 B2.out.size (Nat.zero_le _) rfl)
      have X3 : Hid (u3.heap[x]? = some (.cells #[.int .i64 0, .int .i64 0, .int .i64 0, .int .i64 0, .int .i64 0, .slice none 0 0, .int .i64 0, .int .i64 0, .slice none 0 0] 53 (0, 0)) ∧ w.heap.size ≤ x ∧ x ≠ h) := Lib.hid ⟨by rw [hu]; exact heap_old X2.out.1, X2.out.2, by have := heap_lt X2.out.1; omega⟩
      rw [← hu, ← hh]
      clear hu hh
      refine hK.out _ _ (sOf.out u3 B3.out) (fun hHeld => ?_)
      clear hK K
      try simp only [Act.put, List.setIfInBounds_toArray, List.set_cons_zero, List.set_cons_succ]
      refine wpAnyH_ready (rs := [9]) (by kernel_rfl) (by simp) ?_
      refine AllReadyH.cons (by simp only [List.getElem?_toArray, List.getElem?_cons_zero, List.getElem?_cons_succ]; rfl) (fun K hK => ?_) (AllReadyH.nil)
      rw [if_pos (by rfl)]
      refine wp_append_lies _ (.tmp 7) (.tmp 11) 50 rfl w.heap.size 4 i0 (.bool false) 1 1 Try.underlying50 HI.out.1 HI.out.2.1 HI.out.2.2.1 HI.out.2.2.2 rfl (by omega) _ 0 [] rfl E3.out ⟨q, 0, none⟩ L cap (n.fr.map .bool) rfl (by rw [List.length_map, ← HL.out]; omega) (hcop.out u3 B3.out) bools_one (by omega) (by unfold maxLen; omega) (by omega) B3.out.size _ rfl ?_
      intro q2 cap2 u4 hown hgr hat hlt
      rw [Nat.zero_add] at hown ⊢
      have B4 : Hid (Below w.heap.size w u4) := Lib.hid (B3.out.grown hgr B3.out.size fun k e => (E3.out.lt k e).1)
      have X4 : Hid (u4.heap[x]? = some (.cells #[.int .i64 0, .int .i64 0, .int .i64 0, .int .i64 0, .int .i64 0, .slice none 0 0, .int .i64 0, .int .i64 0, .slice none 0 0] 53 (0, 0)) ∧ w.heap.size ≤ x) := Lib.hid ⟨(hgr.block x (heap_lt X3.out.1) (fun e => X3.out.2.2 (Option.some.inj e))).trans X3.out.1, X3.out.2.1⟩
      have C4 : Hid (Fr u4 (fun k => w.heap.size ≤ k ∧ k ≠ x) (.slice (some ⟨q2, 0, none⟩) L cap2) n.fr) := Lib.hid ⟨q2, cap2, by rw [HL.out], ⟨(hown.lt q2 rfl).1, by rcases hat with e | e; (have e2 : h = q2 := Option.some.inj e; have := X3.out.2.2; omega); (have := heap_lt X3.out.1; omega)⟩, hlt, fun j u hj => by rw [World.ownsRow.cellAt hown j (by have := (List.getElem?_eq_some_iff.1 hj).1; have := HL.out; omega), List.nil_append, List.getElem?_map, hj]; rfl⟩
      clear hown hgr hat hlt
      refine hK.out _ _ (sOf.out u4 B4.out) (fun hHeld => ?_)
      clear hK K
      try simp only [Act.put, List.setIfInBounds_toArray, List.set_cons_zero, List.set_cons_succ]
      refine wpAnyH_take (i := 18) (v := _) (by simp only [List.getElem?_toArray, List.getElem?_cons_zero, List.getElem?_cons_succ]; rfl) (by kernel_rfl) (by kernel_rfl) (by kernel_rfl) (by intro _ _ _ h; exact h) (yields_build (by rfl) 53 [(0, .tmp 6), (1, .tmp 12), (2, .tmp 16), (3, .tmp 20)] rfl [(0, gv g), (1, .slice (some ⟨q2, 0, none⟩) L cap2), (2, .int .i64 o), (3, .int .i64 f)] rfl _ (fun w => build53 g q2 L cap2 o f w)) hHeld ?_
      try simp only [Act.put, List.setIfInBounds_toArray, List.set_cons_zero, List.set_cons_succ]
      refine wpAnyH_ready (rs := [20]) (by kernel_rfl) (by simp) ?_
      refine AllReadyH.cons (by simp only [List.getElem?_toArray, List.getElem?_cons_zero, List.getElem?_cons_succ]; rfl) (fun K hK => ?_) AllReadyH.nil
      rw [if_pos (by rfl)]
      refine wp_store_segK 53 (.tmp 2) (.tmp 21) rfl x 0 rfl (rfC g (.slice (some ⟨q2, 0, none⟩) L cap2) ⟨n.fr, o, f⟩ (.slice none 0 0)) rfl [.int .i64 0, .int .i64 0, .int .i64 0, .int .i64 0, .int .i64 0, .slice none 0 0, .int .i64 0, .int .i64 0, .slice none 0 0] 53 X4.out.1 info53 (by simp [rfC]) rfC_one ?_
      intro u5 H5 hs5
      have B5 : Hid (Below w.heap.size w u5) := Lib.hid (B4.out.trans (H5.out.2.below (fun k e => by subst e; exact X4.out.2) B4.out.size))
      refine hK.out _ _ (sOf.out u5 B5.out) (fun hHeld => ?_)
      clear hK K
      refine wpAnyH_done (by kernel_rfl) ?_ _
      go_wp2_with fail
      go_meet
      refine ⟨x, .slice (some ⟨q2, 0, none⟩) L cap2, rfl, ?_, C4.out.keeps H5.out.2 (fun k hk e => hk.2 e), X4.out.2, rfOf.out u5 B5.out, B5.out⟩
      rw [H5.out.1, splice_all _ _ (by simp [rfC]), HOF.out.1, HOF.out.2]
  case rest =>
    obtain ⟨x, fv', rfl, KX, KF, hx0, KR, KB⟩ := hcut
    have HK := Lib.hid (And.intro KX (And.intro KF (And.intro KR KB)))
    obtain ⟨A, c, hrow, hc1, hc2, hc3⟩ := own_form H.out.own
    subst hrow
    obtain ⟨M, hM⟩ : ∃ M, M = ws.length := ⟨_, rfl⟩
    have jM : (M : Int) < (M : Int) + 1 := by omega
    have hMl : M ≤ 100000 := by rw [hM, H.out.len]; exact hwas
    rw [← hM] at hc1
    have HM := Lib.hid hM
    obtain ⟨j0, ji, jz0, jz1, jz2⟩ := infoParts info53z
    have HJ := Lib.hid (And.intro ji (And.intro jz0 (And.intro jz1 jz2)))
    have HX0 := Lib.hid hx0
    obtain ⟨q3, c3, hfv⟩ : ∃ q3 c3, fv' = .slice (some ⟨q3, 0, none⟩) n.fr.length c3 := by obtain ⟨q3, c3, e, -⟩ := KF; exact ⟨q3, c3, e⟩
    subst hfv
    have hHx : wc.drew.rangeAt x 0 (rfC g (.slice (some ⟨q3, 0, none⟩) n.fr.length c3) n (.slice none 0 0)) := fun j v hj => by
      rw [Nat.zero_add]; exact block_cell KX j v (by rw [List.getElem?_toArray]; exact hj)
    clear KX KF KR KB hx0 hc3 hM ji jz0 jz1 jz2 HI sOf rfOf hcop
    go_wp2_with fail
    refine wp_region_held_drew (S := fun w' => w'.rangeAt x 0 (rfC g (.slice (some ⟨q3, 0, none⟩) n.fr.length c3) n (.slice none 0 0))) follows hHx (fun hHeld => ?_)
    obtain ⟨u1, hu1⟩ : ∃ u, u = wc.drew := ⟨_, rfl⟩
    have B1 : Hid (Below wc.heap.size wc u1) := Lib.hid (by rw [hu1]; exact below_drewN (Below.refl _ wc) 1)
    have xOf : Hid (∀ u : World, u.heap[x]? = wc.heap[x]? → u.rangeAt x 0 (rfC g (.slice (some ⟨q3, 0, none⟩) n.fr.length c3) n (.slice none 0 0))) := Lib.hid fun u hu j v hj => by
      rw [Nat.zero_add]; exact block_cell (hu.trans HK.out.1) j v (by rw [List.getElem?_toArray]; exact hj)
    rw [← hu1] at hHeld ⊢
    clear hu1 hHx
    refine wpAnyH_take (i := 0) (v := ?_) (by simp only [List.getElem?_toArray, List.getElem?_cons_zero]; rfl) (by kernel_rfl) (by kernel_rfl) (by kernel_rfl) (by intro _ _ _ h; exact h) (Or.inl ⟨by rfl, ?_⟩) hHeld ?_
    rotate_left
    · (intro w hSw; (try dsimp only at hSw); go_simp; try with_reducible rfl)
    try simp only [Act.put, List.setIfInBounds_toArray, List.set_cons_zero, List.set_cons_succ]
    refine wpAnyH_take (i := 1) (v := ?_) (by simp only [List.getElem?_toArray, List.getElem?_cons_zero, List.getElem?_cons_succ]; rfl) (by kernel_rfl) (by kernel_rfl) (by kernel_rfl) (by intro _ _ _ h; exact h) (Or.inl ⟨by rfl, ?_⟩) hHeld ?_
    rotate_left
    · (intro w hSw; (try dsimp only at hSw); go_simp; try with_reducible rfl)
    try simp only [Act.put, List.setIfInBounds_toArray, List.set_cons_zero, List.set_cons_succ]
    refine wpAnyH_take (i := 2) (v := ?_) (by simp only [List.getElem?_toArray, List.getElem?_cons_zero, List.getElem?_cons_succ]; rfl) (by kernel_rfl) (by kernel_rfl) (by kernel_rfl) (by intro _ _ _ h; exact h) (Or.inl ⟨by rfl, ?_⟩) hHeld ?_
    rotate_left
    · (intro w hSw; (try dsimp only at hSw); go_simp; try with_reducible rfl)
    try simp only [Act.put, List.setIfInBounds_toArray, List.set_cons_zero, List.set_cons_succ]
    refine wpAnyH_take (i := 4) (v := _) (by simp only [List.getElem?_toArray, List.getElem?_cons_zero, List.getElem?_cons_succ]; rfl) (by kernel_rfl) (by kernel_rfl) (by kernel_rfl) (by intro _ _ _ h; exact h) (yieldsIf_load_mid (by rfl) 53 (.tmp 2) rfl x 0 rfl _ _ (fun _ h => h) Try.underlying53 rfl info53) hHeld ?_
    try simp only [Act.put, List.setIfInBounds_toArray, List.set_cons_zero, List.set_cons_succ]
    refine wpAnyH_ready (rs := [3, 6]) (by kernel_rfl) (by simp) ?_
    refine AllReadyH.cons (by simp only [List.getElem?_toArray, List.getElem?_cons_zero, List.getElem?_cons_succ]; rfl) (fun K hK => ?_) (AllReadyH.cons (by simp only [List.getElem?_toArray, List.getElem?_cons_zero, List.getElem?_cons_succ]; rfl) (fun K hK => ?_) (AllReadyH.nil))
    · rw [if_pos (by rfl)]
      have d8 := (rf_cells ((B1.out.block b (heap_lt HK.out.2.2.1.blk)).trans HK.out.2.2.1.blk)).2.2.2.2.2.2.2.2
      rw [← HM.out] at d8
      go_simp
      refine hK.out _ _ hHeld (fun hHeld => ?_)
      clear hK K d8
      try simp only [Act.put, List.setIfInBounds_toArray, List.set_cons_zero, List.set_cons_succ]
      refine wpAnyH_take (i := 5) (v := ?_) (by simp only [List.getElem?_toArray, List.getElem?_cons_zero, List.getElem?_cons_succ]; rfl) (by kernel_rfl) (by kernel_rfl) (by kernel_rfl) (by intro _ _ _ h; exact h) (Or.inl ⟨by rfl, ?_⟩) hHeld ?_
      rotate_left
      · (intro w hSw; (try dsimp only at hSw); go_simp; try with_reducible rfl)
      try simp only [Act.put, List.setIfInBounds_toArray, List.set_cons_zero, List.set_cons_succ]
      refine wpAnyH_ready (rs := [6]) (by kernel_rfl) (by simp) ?_
      refine AllReadyH.cons (by simp only [List.getElem?_toArray, List.getElem?_cons_zero, List.getElem?_cons_succ]; rfl) (fun K hK => ?_) AllReadyH.nil
      rw [if_pos (by rfl)]
      go_simp
      obtain ⟨u2, hu⟩ : ∃ u, u = u1.alloc (.cells #[.int .i64 0, .int .i64 0, .int .i64 0, .int .i64 0, .int .i64 0, .slice none 0 0, .int .i64 0, .int .i64 0, .slice none 0 0] 53) := ⟨_, rfl⟩
      obtain ⟨h, hh⟩ : ∃ h, h = u1.heap.size := ⟨_, rfl⟩
      have B2 : Hid (Below wc.heap.size wc u2) := Lib.hid (by rw [hu]; exact B1.out.alloc B1.out.size _)
      have N2 : Hid (u2.heap[h]? = some (.cells #[.int .i64 0, .int .i64 0, .int .i64 0, .int .i64 0, .int .i64 0, .slice none 0 0, .int .i64 0, .int .i64 0, .slice none 0 0] 53 (0, 0))) := Lib.hid (by rw [hu, hh]; exact heap_new u1 _)
      rw [← hu, ← hh]
      clear hu hh
      refine hK.out _ _ (xOf.out u2 (B2.out.block x (heap_lt HK.out.1))) (fun hHeld => ?_)
      clear hK K
      try simp only [Act.put, List.setIfInBounds_toArray, List.set_cons_zero, List.set_cons_succ]
      refine wpAnyH_ready (rs := [7]) (by kernel_rfl) (by simp) ?_
      refine AllReadyH.cons (by simp only [List.getElem?_toArray, List.getElem?_cons_zero, List.getElem?_cons_succ]; rfl) (fun K hK => ?_) AllReadyH.nil
      rw [if_pos (by rfl)]
      refine wp_append_lies _ (.tmp 25) (.tmp 28) 51 rfl 0 53 j0 (.agg #[.int .i64 0, .int .i64 0, .int .i64 0, .int .i64 0, .int .i64 0, .slice none 0 0, .int .i64 0, .int .i64 0, .slice none 0 0]) 9 104 Try.underlying51 HJ.out.1 HJ.out.2.1 HJ.out.2.2.1 HJ.out.2.2.2 rfl (by omega) _ M (wsC g ws) rfl (by have := (Keeps.fresh (S := fun _ => False) B2.out).row HK.out.2.2.1.own (fun _ _ h => h); rw [← HM.out] at this; exact this) ⟨h, 0, none⟩ 1 1 #[.int .i64 0, .int .i64 0, .int .i64 0, .int .i64 0, .int .i64 0, .slice none 0 0, .int .i64 0, .int .i64 0, .slice none 0 0].toList rfl rfl (World.news_of_block N2.out) (by simp [Value.oneCell']) (by omega) (by unfold maxLen; omega) (by omega) (Nat.zero_le _) _ rfl ?_
      intro g2 cap2 u3 hown hgr hat hlt
      have G3 := Lib.hid (And.intro hgr (And.intro hat hown))
      have hne : ∀ k, k < wc.heap.size → (Value.slice A M c).ownBlock ≠ some k → u3.heap[k]? = wc.heap[k]? := fun k hk e => (hgr.block k (Nat.lt_of_lt_of_le hk B2.out.size) (fun e2 => e e2.symm)).trans (B2.out.block k hk)
      have E3 : Hid (u3.heap[b]? = some (.cells (rfC g (.slice (some ⟨q, 0, none⟩) n.fr.length cap) n (.slice A M c)).toArray 53 (0, 0)) ∧ u3.heap[x]? = wc.heap[x]?) := Lib.hid ⟨(hne b (heap_lt HK.out.2.2.1.blk) (by rw [HM.out]; exact H.out.apart)).trans (by rw [HM.out]; exact HK.out.2.2.1.blk), hne x (heap_lt HK.out.1) (fun e => by rw [HM.out] at e; have := (HK.out.2.2.1.yr x e).2; have := HX0.out; omega)⟩
      have hgb : g2 ≠ b ∧ g2 ≠ x := by
        have hb := HK.out.2.2.1.yb.2
        have hs := HK.out.2.2.2.size
        have hs2 := B2.out.size
        have hx := heap_lt HK.out.1
        rcases hat with e | e
        · rw [HM.out] at e
          have := (HK.out.2.2.1.yr g2 e).2
          have := HX0.out
          exact ⟨fun e2 => HK.out.2.2.1.apart (e2 ▸ e), by omega⟩
        · exact ⟨by omega, by omega⟩
      have HGB := Lib.hid hgb
      clear hown hgr hat hlt hne hgb
      refine hK.out _ _ (xOf.out u3 E3.out.2) (fun hHeld => ?_)
      clear hK K
      try simp only [Act.put, List.setIfInBounds_toArray, List.set_cons_zero, List.set_cons_succ]
      refine wpAnyH_take (i := 8) (v := ?_) (by simp only [List.getElem?_toArray, List.getElem?_cons_zero, List.getElem?_cons_succ]; rfl) (by kernel_rfl) (by kernel_rfl) (by kernel_rfl) (by intro _ _ _ h; exact h) (Or.inl ⟨by rfl, ?_⟩) hHeld ?_
      rotate_left
      · (intro w hSw; (try dsimp only at hSw); go_simp; try with_reducible rfl)
      try simp only [Act.put, List.setIfInBounds_toArray, List.set_cons_zero, List.set_cons_succ]
      refine wpAnyH_take (i := 10) (v := ?_) (by simp only [List.getElem?_toArray, List.getElem?_cons_zero, List.getElem?_cons_succ]; rfl) (by kernel_rfl) (by kernel_rfl) (by kernel_rfl) (by intro _ _ _ h; exact h) (Or.inl ⟨by rfl, ?_⟩) hHeld ?_
      rotate_left
      · (intro w hSw; (try dsimp only at hSw); go_simp; try with_reducible rfl)
      try simp only [Act.put, List.setIfInBounds_toArray, List.set_cons_zero, List.set_cons_succ]
      refine wpAnyH_take (i := 11) (v := ?_) (by simp only [List.getElem?_toArray, List.getElem?_cons_zero, List.getElem?_cons_succ]; rfl) (by kernel_rfl) (by kernel_rfl) (by kernel_rfl) (by intro _ _ _ h; exact h) (Or.inl ⟨by rfl, ?_⟩) hHeld ?_
      rotate_left
      · (intro w hSw; (try dsimp only at hSw); go_simp; try with_reducible rfl)
      try simp only [Act.put, List.setIfInBounds_toArray, List.set_cons_zero, List.set_cons_succ]
      refine wpAnyH_ready (rs := [9, 12]) (by kernel_rfl) (by simp) ?_
      refine AllReadyH.cons (by simp only [List.getElem?_toArray, List.getElem?_cons_zero, List.getElem?_cons_succ]; rfl) (fun K hK => ?_) (AllReadyH.cons (by simp only [List.getElem?_toArray, List.getElem?_cons_zero, List.getElem?_cons_succ]; rfl) (fun K hK => ?_) (AllReadyH.nil))
      · rw [if_pos (by rfl)]
        have O3 := Lib.hid G3.out.2.2
        obtain ⟨cur, hcur⟩ : ∃ cur : Array Value, u3.heap[g2]? = some (.cells cur 53 (0, 0)) ∧ M * 9 + 9 ≤ cur.toList.length := by
          rcases O3.out.2 with ⟨h1, _⟩ | ⟨g3, cap3, cur, h1, _, h3, h4, _, h6, _⟩
          · simp at h1
          · injection h1 with h1
            injection h1 with h1
            injection h1 with h1
            subst h1
            exact ⟨cur, h3, by rw [Array.length_toList, h6]; omega⟩
        refine wp_store_segK 53 (.tmp 30) (.tmp 26) rfl g2 (M * 9) rfl (rfC g (.slice (some ⟨q3, 0, none⟩) n.fr.length c3) n (.slice none 0 0)) rfl cur.toList 53 hcur.1 info53 hcur.2 rfC_one ?_
        intro u4 H4 hs4
        have O4 := Lib.hid (own_splice O3.out hcur.1 (by simp [rfC]) H4.out.1)
        have E4 : Hid (u4.heap[b]? = some (.cells (rfC g (.slice (some ⟨q, 0, none⟩) n.fr.length cap) n (.slice A M c)).toArray 53 (0, 0)) ∧ u4.heap[x]? = wc.heap[x]?) := Lib.hid ⟨H4.out.2.heap E3.out.1 (fun e => HGB.out.1 e.symm), (H4.out.2.block x (Nat.lt_of_lt_of_le (heap_lt HK.out.1) (by have := G3.out.1.size; have := B2.out.size; omega)) (fun e => HGB.out.2 e.symm)).trans E3.out.2⟩
        refine hK.out _ _ (xOf.out u4 E4.out.2) (fun hHeld => ?_)
        clear hK K
        try simp only [Act.put]
        have d8 := (rf_cells E4.out.1).2.2.2.2.2.2.2.2
        have hz := frozen_of_row u4 b 8 _ _ E4.out.1
        refine wpAnyH_ready (rs := [12]) (by kernel_rfl) (by simp) ?_
        refine AllReadyH.cons (by simp only [List.getElem?_toArray, List.getElem?_cons_zero, List.getElem?_cons_succ]; rfl) (fun K hK => ?_) AllReadyH.nil
        rw [if_pos (by rfl)]
        go_simp
        refine hK.out _ _ (xOf.out _ ((Keeps.setCell (fun k => k = b) u4 ⟨b, 8, none⟩ _ rfl).block x (by have := H4.out.2.size; have := G3.out.1.size; have := B2.out.size; have := heap_lt HK.out.1; omega) (fun e => by have := HK.out.2.2.1.yb.2; have := HX0.out; omega) |>.trans E4.out.2)) (fun hHeld => ?_)
        have O4b := Lib.hid ((set_keep u4 b 8 (.slice (some ⟨g2, 0, none⟩) (M + 1) cap2)).row O4.out (fun k hk e => HGB.out.1 (by rw [← e]; exact Option.some.inj hk)))
        clear d8 hz
        clear hK K
        refine wpAnyH_done (by kernel_rfl) ?_ _
        go_wp2_with fail
        refine bodyPost_end (results_none rfl _ _ _) rfl ?_
        obtain rfl : M = ws.length := HM.out
        have e9 : (wsC g ws ++ (#[.int .i64 0, .int .i64 0, .int .i64 0, .int .i64 0, .int .i64 0, .slice none 0 0, .int .i64 0, .int .i64 0, .slice none 0 0] : Array Value).toList).take (ws.length * 9) = wsC g ws := by rw [List.take_left' (by rw [wsC_len])]
        have hO := O4b.out
        rw [e9] at hO
        have hG := G3.out
        exact keep_final H.out.yb (fun k hk => H.out.yr k hk) HK.out.2.2.1 HK.out.2.1 HK.out.2.2.2 B2.out hG.1 hG.2.1 ((H4.out.2.mono fun _ _ h => .inl h).trans (set_keep u4 b 8 _) fun _ _ h => .inr h) (by rw [set_blk E4.out.1]; rfl) hO
      · rw [if_pos (by rfl)]
        have d8 := (rf_cells E3.out.1).2.2.2.2.2.2.2.2
        have hz := frozen_of_row u3 b 8 _ _ E3.out.1
        go_simp
        obtain ⟨u4, hu⟩ : ∃ u, u = u3.setCell ⟨b, 8, none⟩ (.slice (some ⟨g2, 0, none⟩) (M + 1) cap2) := ⟨_, rfl⟩
        have T4 : Hid (Keeps (fun k => k = b) u3 u4) := Lib.hid (by rw [hu]; exact set_keep _ _ _ _)
        have E4 : Hid (u4.heap[b]? = some (.cells (rfC g (.slice (some ⟨q, 0, none⟩) n.fr.length cap) n (.slice (some ⟨g2, 0, none⟩) (M + 1) cap2)).toArray 53 (0, 0)) ∧ u4.heap[x]? = wc.heap[x]?) := Lib.hid ⟨by rw [hu, set_blk E3.out.1]; rfl, (T4.out.block x (by have := G3.out.1.size; have := B2.out.size; have := heap_lt HK.out.1; omega) (fun e => by have := HK.out.2.2.1.yb.2; have := HX0.out; omega)).trans E3.out.2⟩
        have O4 := Lib.hid (T4.out.row G3.out.2.2 (fun k hk e => HGB.out.1 (by rw [← e]; exact Option.some.inj hk)))
        rw [← hu]
        clear hu d8 hz
        refine hK.out _ _ (xOf.out u4 E4.out.2) (fun hHeld => ?_)
        clear hK K
        try simp only [Act.put, List.setIfInBounds_toArray, List.set_cons_zero, List.set_cons_succ]
        refine wpAnyH_ready (rs := [9]) (by kernel_rfl) (by simp) ?_
        refine AllReadyH.cons (by simp only [List.getElem?_toArray, List.getElem?_cons_zero, List.getElem?_cons_succ]; rfl) (fun K hK => ?_) AllReadyH.nil
        rw [if_pos (by rfl)]
        obtain ⟨cur, hcur⟩ : ∃ cur : Array Value, u4.heap[g2]? = some (.cells cur 53 (0, 0)) ∧ M * 9 + 9 ≤ cur.toList.length := by
          rcases O4.out.2 with ⟨h1, _⟩ | ⟨g3, cap3, cur, h1, _, h3, h4, _, h6, _⟩
          · simp at h1
          · injection h1 with h1
            injection h1 with h1
            injection h1 with h1
            subst h1
            exact ⟨cur, h3, by rw [Array.length_toList, h6]; omega⟩
        refine wp_store_segK 53 (.tmp 30) (.tmp 26) rfl g2 (M * 9) rfl (rfC g (.slice (some ⟨q3, 0, none⟩) n.fr.length c3) n (.slice none 0 0)) rfl cur.toList 53 hcur.1 info53 hcur.2 rfC_one ?_
        intro u5 H5 hs5
        have O5 := Lib.hid (own_splice O4.out hcur.1 (by simp [rfC]) H5.out.1)
        refine hK.out _ _ (xOf.out u5 ((H5.out.2.block x (by have := T4.out.size; have := G3.out.1.size; have := B2.out.size; have := heap_lt HK.out.1; omega) (fun e => HGB.out.2 e.symm)).trans E4.out.2)) (fun hHeld => ?_)
        clear hK K
        refine wpAnyH_done (by kernel_rfl) ?_ _
        go_wp2_with fail
        refine bodyPost_end (results_none rfl _ _ _) rfl ?_
        obtain rfl : M = ws.length := HM.out
        have e9 : (wsC g ws ++ (#[.int .i64 0, .int .i64 0, .int .i64 0, .int .i64 0, .int .i64 0, .slice none 0 0, .int .i64 0, .int .i64 0, .slice none 0 0] : Array Value).toList).take (ws.length * 9) = wsC g ws := by rw [List.take_left' (by rw [wsC_len])]
        have hO := O5.out
        rw [e9] at hO
        have hG := G3.out
        exact keep_final H.out.yb (fun k hk => H.out.yr k hk) HK.out.2.2.1 HK.out.2.1 HK.out.2.2.2 B2.out hG.1 hG.2.1 ((T4.out.mono fun _ _ h => .inr h).trans H5.out.2 fun _ _ h => .inl h) (H5.out.2.heap E4.out.1 (fun e => HGB.out.1 e.symm)) hO
    · rw [if_pos (by rfl)]
      go_simp
      obtain ⟨u2, hu⟩ : ∃ u, u = u1.alloc (.cells #[.int .i64 0, .int .i64 0, .int .i64 0, .int .i64 0, .int .i64 0, .slice none 0 0, .int .i64 0, .int .i64 0, .slice none 0 0] 53) := ⟨_, rfl⟩
      obtain ⟨h, hh⟩ : ∃ h, h = u1.heap.size := ⟨_, rfl⟩
      have B2 : Hid (Below wc.heap.size wc u2) := Lib.hid (by rw [hu]; exact B1.out.alloc B1.out.size _)
      have N2 : Hid (u2.heap[h]? = some (.cells #[.int .i64 0, .int .i64 0, .int .i64 0, .int .i64 0, .int .i64 0, .slice none 0 0, .int .i64 0, .int .i64 0, .slice none 0 0] 53 (0, 0))) := Lib.hid (by rw [hu, hh]; exact heap_new u1 _)
      rw [← hu, ← hh]
      clear hu hh
      refine hK.out _ _ (xOf.out u2 (B2.out.block x (heap_lt HK.out.1))) (fun hHeld => ?_)
      clear hK K
      try simp only [Act.put, List.setIfInBounds_toArray, List.set_cons_zero, List.set_cons_succ]
      refine wpAnyH_ready (rs := [3]) (by kernel_rfl) (by simp) ?_
      refine AllReadyH.cons (by simp only [List.getElem?_toArray, List.getElem?_cons_zero, List.getElem?_cons_succ]; rfl) (fun K hK => ?_) AllReadyH.nil
      rw [if_pos (by rfl)]
      have d8 := (rf_cells ((B2.out.block b (heap_lt HK.out.2.2.1.blk)).trans HK.out.2.2.1.blk)).2.2.2.2.2.2.2.2
      rw [← HM.out] at d8
      go_simp
      refine hK.out _ _ hHeld (fun hHeld => ?_)
      clear hK K d8
      try simp only [Act.put, List.setIfInBounds_toArray, List.set_cons_zero, List.set_cons_succ]
      refine wpAnyH_take (i := 5) (v := ?_) (by simp only [List.getElem?_toArray, List.getElem?_cons_zero, List.getElem?_cons_succ]; rfl) (by kernel_rfl) (by kernel_rfl) (by kernel_rfl) (by intro _ _ _ h; exact h) (Or.inl ⟨by rfl, ?_⟩) hHeld ?_
      rotate_left
      · (intro w hSw; (try dsimp only at hSw); go_simp; try with_reducible rfl)
      try simp only [Act.put, List.setIfInBounds_toArray, List.set_cons_zero, List.set_cons_succ]
      refine wpAnyH_ready (rs := [7]) (by kernel_rfl) (by simp) ?_
      refine AllReadyH.cons (by simp only [List.getElem?_toArray, List.getElem?_cons_zero, List.getElem?_cons_succ]; rfl) (fun K hK => ?_) AllReadyH.nil
      rw [if_pos (by rfl)]
      refine wp_append_lies _ (.tmp 25) (.tmp 28) 51 rfl 0 53 j0 (.agg #[.int .i64 0, .int .i64 0, .int .i64 0, .int .i64 0, .int .i64 0, .slice none 0 0, .int .i64 0, .int .i64 0, .slice none 0 0]) 9 104 Try.underlying51 HJ.out.1 HJ.out.2.1 HJ.out.2.2.1 HJ.out.2.2.2 rfl (by omega) _ M (wsC g ws) rfl (by have := (Keeps.fresh (S := fun _ => False) B2.out).row HK.out.2.2.1.own (fun _ _ h => h); rw [← HM.out] at this; exact this) ⟨h, 0, none⟩ 1 1 #[.int .i64 0, .int .i64 0, .int .i64 0, .int .i64 0, .int .i64 0, .slice none 0 0, .int .i64 0, .int .i64 0, .slice none 0 0].toList rfl rfl (World.news_of_block N2.out) (by simp [Value.oneCell']) (by omega) (by unfold maxLen; omega) (by omega) (Nat.zero_le _) _ rfl ?_
      intro g2 cap2 u3 hown hgr hat hlt
      have G3 := Lib.hid (And.intro hgr (And.intro hat hown))
      have hne : ∀ k, k < wc.heap.size → (Value.slice A M c).ownBlock ≠ some k → u3.heap[k]? = wc.heap[k]? := fun k hk e => (hgr.block k (Nat.lt_of_lt_of_le hk B2.out.size) (fun e2 => e e2.symm)).trans (B2.out.block k hk)
      have E3 : Hid (u3.heap[b]? = some (.cells (rfC g (.slice (some ⟨q, 0, none⟩) n.fr.length cap) n (.slice A M c)).toArray 53 (0, 0)) ∧ u3.heap[x]? = wc.heap[x]?) := Lib.hid ⟨(hne b (heap_lt HK.out.2.2.1.blk) (by rw [HM.out]; exact H.out.apart)).trans (by rw [HM.out]; exact HK.out.2.2.1.blk), hne x (heap_lt HK.out.1) (fun e => by rw [HM.out] at e; have := (HK.out.2.2.1.yr x e).2; have := HX0.out; omega)⟩
      have hgb : g2 ≠ b ∧ g2 ≠ x := by
        have hb := HK.out.2.2.1.yb.2
        have hs := HK.out.2.2.2.size
        have hs2 := B2.out.size
        have hx := heap_lt HK.out.1
        rcases hat with e | e
        · rw [HM.out] at e
          have := (HK.out.2.2.1.yr g2 e).2
          have := HX0.out
          exact ⟨fun e2 => HK.out.2.2.1.apart (e2 ▸ e), by omega⟩
        · exact ⟨by omega, by omega⟩
      have HGB := Lib.hid hgb
      clear hown hgr hat hlt hne hgb
      refine hK.out _ _ (xOf.out u3 E3.out.2) (fun hHeld => ?_)
      clear hK K
      try simp only [Act.put, List.setIfInBounds_toArray, List.set_cons_zero, List.set_cons_succ]
      refine wpAnyH_take (i := 8) (v := ?_) (by simp only [List.getElem?_toArray, List.getElem?_cons_zero, List.getElem?_cons_succ]; rfl) (by kernel_rfl) (by kernel_rfl) (by kernel_rfl) (by intro _ _ _ h; exact h) (Or.inl ⟨by rfl, ?_⟩) hHeld ?_
      rotate_left
      · (intro w hSw; (try dsimp only at hSw); go_simp; try with_reducible rfl)
      try simp only [Act.put, List.setIfInBounds_toArray, List.set_cons_zero, List.set_cons_succ]
      refine wpAnyH_take (i := 10) (v := ?_) (by simp only [List.getElem?_toArray, List.getElem?_cons_zero, List.getElem?_cons_succ]; rfl) (by kernel_rfl) (by kernel_rfl) (by kernel_rfl) (by intro _ _ _ h; exact h) (Or.inl ⟨by rfl, ?_⟩) hHeld ?_
      rotate_left
      · (intro w hSw; (try dsimp only at hSw); go_simp; try with_reducible rfl)
      try simp only [Act.put, List.setIfInBounds_toArray, List.set_cons_zero, List.set_cons_succ]
      refine wpAnyH_take (i := 11) (v := ?_) (by simp only [List.getElem?_toArray, List.getElem?_cons_zero, List.getElem?_cons_succ]; rfl) (by kernel_rfl) (by kernel_rfl) (by kernel_rfl) (by intro _ _ _ h; exact h) (Or.inl ⟨by rfl, ?_⟩) hHeld ?_
      rotate_left
      · (intro w hSw; (try dsimp only at hSw); go_simp; try with_reducible rfl)
      try simp only [Act.put, List.setIfInBounds_toArray, List.set_cons_zero, List.set_cons_succ]
      refine wpAnyH_ready (rs := [9, 12]) (by kernel_rfl) (by simp) ?_
      refine AllReadyH.cons (by simp only [List.getElem?_toArray, List.getElem?_cons_zero, List.getElem?_cons_succ]; rfl) (fun K hK => ?_) (AllReadyH.cons (by simp only [List.getElem?_toArray, List.getElem?_cons_zero, List.getElem?_cons_succ]; rfl) (fun K hK => ?_) (AllReadyH.nil))
      · rw [if_pos (by rfl)]
        have O3 := Lib.hid G3.out.2.2
        obtain ⟨cur, hcur⟩ : ∃ cur : Array Value, u3.heap[g2]? = some (.cells cur 53 (0, 0)) ∧ M * 9 + 9 ≤ cur.toList.length := by
          rcases O3.out.2 with ⟨h1, _⟩ | ⟨g3, cap3, cur, h1, _, h3, h4, _, h6, _⟩
          · simp at h1
          · injection h1 with h1
            injection h1 with h1
            injection h1 with h1
            subst h1
            exact ⟨cur, h3, by rw [Array.length_toList, h6]; omega⟩
        refine wp_store_segK 53 (.tmp 30) (.tmp 26) rfl g2 (M * 9) rfl (rfC g (.slice (some ⟨q3, 0, none⟩) n.fr.length c3) n (.slice none 0 0)) rfl cur.toList 53 hcur.1 info53 hcur.2 rfC_one ?_
        intro u4 H4 hs4
        have O4 := Lib.hid (own_splice O3.out hcur.1 (by simp [rfC]) H4.out.1)
        have E4 : Hid (u4.heap[b]? = some (.cells (rfC g (.slice (some ⟨q, 0, none⟩) n.fr.length cap) n (.slice A M c)).toArray 53 (0, 0)) ∧ u4.heap[x]? = wc.heap[x]?) := Lib.hid ⟨H4.out.2.heap E3.out.1 (fun e => HGB.out.1 e.symm), (H4.out.2.block x (Nat.lt_of_lt_of_le (heap_lt HK.out.1) (by have := G3.out.1.size; have := B2.out.size; omega)) (fun e => HGB.out.2 e.symm)).trans E3.out.2⟩
        refine hK.out _ _ (xOf.out u4 E4.out.2) (fun hHeld => ?_)
        clear hK K
        try simp only [Act.put]
        have d8 := (rf_cells E4.out.1).2.2.2.2.2.2.2.2
        have hz := frozen_of_row u4 b 8 _ _ E4.out.1
        refine wpAnyH_ready (rs := [12]) (by kernel_rfl) (by simp) ?_
        refine AllReadyH.cons (by simp only [List.getElem?_toArray, List.getElem?_cons_zero, List.getElem?_cons_succ]; rfl) (fun K hK => ?_) AllReadyH.nil
        rw [if_pos (by rfl)]
        go_simp
        refine hK.out _ _ (xOf.out _ ((Keeps.setCell (fun k => k = b) u4 ⟨b, 8, none⟩ _ rfl).block x (by have := H4.out.2.size; have := G3.out.1.size; have := B2.out.size; have := heap_lt HK.out.1; omega) (fun e => by have := HK.out.2.2.1.yb.2; have := HX0.out; omega) |>.trans E4.out.2)) (fun hHeld => ?_)
        have O4b := Lib.hid ((set_keep u4 b 8 (.slice (some ⟨g2, 0, none⟩) (M + 1) cap2)).row O4.out (fun k hk e => HGB.out.1 (by rw [← e]; exact Option.some.inj hk)))
        clear d8 hz
        clear hK K
        refine wpAnyH_done (by kernel_rfl) ?_ _
        go_wp2_with fail
        refine bodyPost_end (results_none rfl _ _ _) rfl ?_
        obtain rfl : M = ws.length := HM.out
        have e9 : (wsC g ws ++ (#[.int .i64 0, .int .i64 0, .int .i64 0, .int .i64 0, .int .i64 0, .slice none 0 0, .int .i64 0, .int .i64 0, .slice none 0 0] : Array Value).toList).take (ws.length * 9) = wsC g ws := by rw [List.take_left' (by rw [wsC_len])]
        have hO := O4b.out
        rw [e9] at hO
        have hG := G3.out
        exact keep_final H.out.yb (fun k hk => H.out.yr k hk) HK.out.2.2.1 HK.out.2.1 HK.out.2.2.2 B2.out hG.1 hG.2.1 ((H4.out.2.mono fun _ _ h => .inl h).trans (set_keep u4 b 8 _) fun _ _ h => .inr h) (by rw [set_blk E4.out.1]; rfl) hO
      · rw [if_pos (by rfl)]
        have d8 := (rf_cells E3.out.1).2.2.2.2.2.2.2.2
        have hz := frozen_of_row u3 b 8 _ _ E3.out.1
        go_simp
        obtain ⟨u4, hu⟩ : ∃ u, u = u3.setCell ⟨b, 8, none⟩ (.slice (some ⟨g2, 0, none⟩) (M + 1) cap2) := ⟨_, rfl⟩
        have T4 : Hid (Keeps (fun k => k = b) u3 u4) := Lib.hid (by rw [hu]; exact set_keep _ _ _ _)
        have E4 : Hid (u4.heap[b]? = some (.cells (rfC g (.slice (some ⟨q, 0, none⟩) n.fr.length cap) n (.slice (some ⟨g2, 0, none⟩) (M + 1) cap2)).toArray 53 (0, 0)) ∧ u4.heap[x]? = wc.heap[x]?) := Lib.hid ⟨by rw [hu, set_blk E3.out.1]; rfl, (T4.out.block x (by have := G3.out.1.size; have := B2.out.size; have := heap_lt HK.out.1; omega) (fun e => by have := HK.out.2.2.1.yb.2; have := HX0.out; omega)).trans E3.out.2⟩
        have O4 := Lib.hid (T4.out.row G3.out.2.2 (fun k hk e => HGB.out.1 (by rw [← e]; exact Option.some.inj hk)))
        rw [← hu]
        clear hu d8 hz
        refine hK.out _ _ (xOf.out u4 E4.out.2) (fun hHeld => ?_)
        clear hK K
        try simp only [Act.put, List.setIfInBounds_toArray, List.set_cons_zero, List.set_cons_succ]
        refine wpAnyH_ready (rs := [9]) (by kernel_rfl) (by simp) ?_
        refine AllReadyH.cons (by simp only [List.getElem?_toArray, List.getElem?_cons_zero, List.getElem?_cons_succ]; rfl) (fun K hK => ?_) AllReadyH.nil
        rw [if_pos (by rfl)]
        obtain ⟨cur, hcur⟩ : ∃ cur : Array Value, u4.heap[g2]? = some (.cells cur 53 (0, 0)) ∧ M * 9 + 9 ≤ cur.toList.length := by
          rcases O4.out.2 with ⟨h1, _⟩ | ⟨g3, cap3, cur, h1, _, h3, h4, _, h6, _⟩
          · simp at h1
          · injection h1 with h1
            injection h1 with h1
            injection h1 with h1
            subst h1
            exact ⟨cur, h3, by rw [Array.length_toList, h6]; omega⟩
        refine wp_store_segK 53 (.tmp 30) (.tmp 26) rfl g2 (M * 9) rfl (rfC g (.slice (some ⟨q3, 0, none⟩) n.fr.length c3) n (.slice none 0 0)) rfl cur.toList 53 hcur.1 info53 hcur.2 rfC_one ?_
        intro u5 H5 hs5
        have O5 := Lib.hid (own_splice O4.out hcur.1 (by simp [rfC]) H5.out.1)
        refine hK.out _ _ (xOf.out u5 ((H5.out.2.block x (by have := T4.out.size; have := G3.out.1.size; have := B2.out.size; have := heap_lt HK.out.1; omega) (fun e => HGB.out.2 e.symm)).trans E4.out.2)) (fun hHeld => ?_)
        clear hK K
        refine wpAnyH_done (by kernel_rfl) ?_ _
        go_wp2_with fail
        refine bodyPost_end (results_none rfl _ _ _) rfl ?_
        obtain rfl : M = ws.length := HM.out
        have e9 : (wsC g ws ++ (#[.int .i64 0, .int .i64 0, .int .i64 0, .int .i64 0, .int .i64 0, .slice none 0 0, .int .i64 0, .int .i64 0, .slice none 0 0] : Array Value).toList).take (ws.length * 9) = wsC g ws := by rw [List.take_left' (by rw [wsC_len])]
        have hO := O5.out
        rw [e9] at hO
        have hG := G3.out
        exact keep_final H.out.yb (fun k hk => H.out.yr k hk) HK.out.2.2.1 HK.out.2.1 HK.out.2.2.2 B2.out hG.1 hG.2.1 ((T4.out.mono fun _ _ h => .inr h).trans H5.out.2 fun _ _ h => .inl h) (H5.out.2.heap E4.out.1 (fun e => HGB.out.1 e.symm)) hO
end Go.Proofs.Ytgoblbmekhcekaa
