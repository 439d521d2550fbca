/- lz.Parse's function 'put': where three bytes stood is kept. -/
import Derived.Test.YtbaibkckigdndaaKm
import Derived.Test.YtbaibkckigdndaaMk
import Derived.Test.YtbaibkckigdndaaA
import Derived.DeepKeys4
import Derived.Deep.Cut
namespace Go.Proofs.Ytbaibkckigdndaa
open Go.RowKit Go.Maps Go.WideMaps
theorem arr72 : ArrKey Try.prog 72 5 3 := ⟨Try.underlying72, by kernel_rfl, by kernel_rfl, by kernel_rfl⟩
theorem keyed72 : Keyed Try.prog 72 := Keyed.of_law arr72.law
theorem types_pos : ∃ m, Try.prog.types.size = m + 1 := by
  have h : 0 < Try.prog.types.size := of_decide_eq_true (by kernel_rfl)
  exact ⟨Try.prog.types.size - 1, by omega⟩
theorem zero3 (w : World) : (zeroValue 3).run Try.prog w = .ok (.int .i64 0) w := by kernel_rfl
theorem key72 {ks : List Int} (h : KeyOk 3 ks) : keyOf Try.prog 72 (kv ks) = some (kl ks) := keyOf_arr arr72 Try.underlying5 types_pos h
/-- Where the three bytes of a key stood last, ahead of p. -/
def lastO (f : Nat → Int) (n p : Nat) (ks : List Int) : Option Int :=
  if lastF f n (ks.getD 0 0) (ks.getD 1 0) (ks.getD 2 0) p < 0 then none else some (lastF f n (ks.getD 0 0) (ks.getD 1 0) (ks.getD 2 0) p)
/-- What stands in 'ahead' once all places below p were put. -/
def aheadF (f : Nat → Int) (n p q : Nat) : Int := if q < p ∧ q + 3 ≤ n then prevF f n q else 0
def aheadL (f : Nat → Int) (n p : Nat) : List Value := (List.range n).map fun q => .int .i64 (aheadF f n p q)
theorem lastO_none (f : Nat → Int) {n p : Nat} (h : n < p + 3) (ks : List Int) : lastO f n (p + 1) ks = lastO f n p ks := by
  have e : ∀ x y z, lastF f n x y z (p + 1) = lastF f n x y z p := fun x y z => by rw [lastF, if_neg (fun h2 => by omega)]
  unfold lastO
  rw [e]
theorem lastO_some (f : Nat → Int) {n p : Nat} (h : p + 3 ≤ n) {ks : List Int} (hk : KeyOk 3 ks) : (if ks = [f p, f (p + 1), f (p + 2)] then some (p : Int) else lastO f n p ks) = lastO f n (p + 1) ks := by
  obtain ⟨x, y, z, rfl⟩ : ∃ x y z, ks = [x, y, z] := by
    have := hk.len
    match ks, this with
    | [x, y, z], _ => exact ⟨x, y, z, rfl⟩
  unfold lastO
  show (if [x, y, z] = [f p, f (p + 1), f (p + 2)] then some (p : Int) else if lastF f n x y z p < 0 then none else some (lastF f n x y z p)) = if lastF f n x y z (p + 1) < 0 then none else some (lastF f n x y z (p + 1))
  by_cases e : f p = x ∧ f (p + 1) = y ∧ f (p + 2) = z
  · have e1 : lastF f n x y z (p + 1) = p := by rw [lastF, if_pos ⟨h, e⟩]
    rw [e1, if_pos (by rw [e.1, e.2.1, e.2.2]), if_neg (by omega)]
  · have e1 : lastF f n x y z (p + 1) = lastF f n x y z p := by rw [lastF, if_neg (fun h2 => e h2.2)]
    rw [e1, if_neg (fun h2 => e (by simp at h2; exact ⟨h2.1.symm, h2.2.1.symm, h2.2.2.symm⟩))]
theorem lastO_at (f : Nat → Int) {n p : Nat} : (lastO f n p [f p, f (p + 1), f (p + 2)]).getD 0 = (if prevF f n p < 0 then 0 else prevF f n p) ∧ (lastO f n p [f p, f (p + 1), f (p + 2)]).isSome = !decide (prevF f n p < 0) := by
  have e : lastO f n p [f p, f (p + 1), f (p + 2)] = if prevF f n p < 0 then none else some (prevF f n p) := rfl
  rw [e]
  by_cases h : prevF f n p < 0
  · rw [if_pos h, if_pos h]; simp [h]
  · rw [if_neg h, if_neg h]; simp [h]
theorem aheadL_len (f : Nat → Int) (n p : Nat) : (aheadL f n p).length = n := by simp [aheadL]
theorem aheadL_none (f : Nat → Int) {n p : Nat} (h : n < p + 3) : aheadL f n (p + 1) = aheadL f n p := by
  refine List.map_congr_left fun q hq => ?_
  unfold aheadF
  by_cases e : q + 3 ≤ n
  · have : (q < p + 1 ∧ q + 3 ≤ n) = (q < p ∧ q + 3 ≤ n) := by rw [eq_iff_iff]; omega
    simp only [this]
  · rw [if_neg (fun h => e h.2), if_neg (fun h => e h.2)]
theorem aheadL_some (f : Nat → Int) {n p : Nat} (h : p + 3 ≤ n) : (aheadL f n p).set p (.int .i64 (prevF f n p)) = aheadL f n (p + 1) := by
  apply List.ext_getElem?
  intro q
  rw [List.getElem?_set, aheadL_len]
  unfold aheadL
  rw [List.getElem?_map, List.getElem?_map]
  by_cases e : p = q
  · subst e
    rw [if_pos rfl, if_pos (by omega), List.getElem?_range (by omega)]
    simp [aheadF, h]
  · rw [if_neg e]
    by_cases hq : q < n
    · rw [List.getElem?_range hq]
      have : (q < p + 1 ∧ q + 3 ≤ n) = (q < p ∧ q + 3 ≤ n) := by rw [eq_iff_iff]; omega
      simp only [Option.map_some, aheadF, this]
    · rw [List.getElem?_eq_none (by simpa using hq)]
      rfl
theorem aheadL_at (f : Nat → Int) {n p q : Nat} (hq : q < n) : (aheadL f n p)[q]? = some (.int .i64 (aheadF f n p q)) := by
  unfold aheadL
  rw [List.getElem?_map, List.getElem?_range hq]; rfl
theorem arrayAt72 (A : Option Addr) (l c : Nat) (h : 3 ≤ l) (u : World) : (Instr.arrayAt 72 (.slice A l c)).run Try.prog u = .ok (.pointer A) u := by
  simp [Instr.arrayAt, run_underlying Try.underlying72, Result.andThen]
  omega
/-- What 'put' works on: the boxes of b, ahead and last; ahead's row; the map. -/
structure PS (w : World) (base : Nat) (f : Nat → Int) (A : Option Addr) (n c bb ba bl : Nat) (av : Value) (M p : Nat) : Prop where
  arr : Arr w base A n fun j => .int .u8 (f j)
  boxb : w.heap[bb]? = some (.cells #[.slice A n c] 25 (0, 0))
  boxa : w.heap[ba]? = some (.cells #[av] 33 (0, 0))
  boxl : w.heap[bl]? = some (.cells #[.map (some M)] 70 (0, 0))
  row : w.ownsRow base 3 1 av n (aheadL f n p)
  map : Tm Try.prog w 72 3 3 M p (lastO f n p)
  hb : base ≤ bb
  ha : base ≤ ba
  hl : base ≤ bl
  hM : base ≤ M
theorem row_ne_cells {w : World} {base b n s : Nat} {e t : TypeId} {v : Value} {xs : List Value} {cs : Array Value} {z : Nat × Nat} (h : w.ownsRow base e s v n xs) (hb : w.heap[b]? = some (.cells cs t z)) (ht : t ≠ e) : v.ownBlock ≠ some b := by
  intro hk
  rcases h.2 with ⟨rfl, _⟩ | ⟨g, cap, cur, rfl, _, hg, _⟩
  · simp [Value.ownBlock] at hk
  · obtain rfl : g = b := Option.some.inj hk
    rw [hb] at hg
    injection hg with hg
    injection hg with _ e2
    exact ht e2
theorem row_ne_map {w : World} {base b n s : Nat} {e : TypeId} {v : Value} {xs : List Value} {es : Array MapEntry} {cl : Nat} (h : w.ownsRow base e s v n xs) (hb : w.heap[b]? = some (.map es cl)) : v.ownBlock ≠ some b := by
  intro hk
  rcases h.2 with ⟨rfl, _⟩ | ⟨g, cap, cur, rfl, _, hg, _⟩
  · simp [Value.ownBlock] at hk
  · obtain rfl : g = b := Option.some.inj hk
    rw [hb] at hg
    injection hg with hg
    cases hg
theorem Tm.ne_cells {P : Program} {w : World} {k e : TypeId} {N B n b : Nat} {L : List Int → Option Int} {cs : Array Value} {t : TypeId} {z : Nat × Nat} (h : Tm P w k e N B n L) (hb : w.heap[b]? = some (.cells cs t z)) : B ≠ b := by
  obtain ⟨D, ⟨es, clock, hm, -⟩, -⟩ := h
  rintro rfl
  rw [hb] at hm
  injection hm with hm
  cases hm
theorem Tm.ne_row {P : Program} {w : World} {k e : TypeId} {N B n : Nat} {L : List Int → Option Int} (h : Tm P w k e N B n L) {base m s : Nat} {e2 : TypeId} {v : Value} {xs : List Value} (hr : w.ownsRow base e2 s v m xs) : v.ownBlock ≠ some B := by
  obtain ⟨D, ⟨es, clock, hm, -⟩, -⟩ := h
  exact row_ne_map hr hm
section
variable {w w' : World} {base : Nat} {f : Nat → Int} {A : Option Addr} {n c bb ba bl : Nat} {av : Value} {M p : Nat}
/-- The blocks that 'put' turns. -/
def PutS (av : Value) (M : Nat) (k : Nat) : Prop := av.ownBlock = some k ∨ k = M
theorem PS.keeps {S : Nat → Prop} (h : PS w base f A n c bb ba bl av M p) (hk : Keeps S w w') (h0 : ∀ k, k < base → ¬ S k) (h1 : ¬ S bb) (h2 : ¬ S ba) (h3 : ¬ S bl) (h4 : ¬ S M) (h5 : ∀ k, av.ownBlock = some k → ¬ S k) : PS w' base f A n c bb ba bl av M p :=
  ⟨hk.arr h.arr h0, hk.heap h.boxb h1, hk.heap h.boxa h2, hk.heap h.boxl h3, hk.row h.row h5, h.map.keeps (hk.block M h.map.lt h4), h.hb, h.ha, h.hl, h.hM⟩
theorem PS.go (h : PS w base f A n c bb ba bl av M p) (hb : Below w.heap.size w w') : PS w' base f A n c bb ba bl av M p :=
  h.keeps (S := fun _ => False) (Keeps.fresh hb) (fun _ _ h => h) (fun h => h) (fun h => h) (fun h => h) (fun h => h) (fun _ _ h => h)
theorem PS.pass (h : PS w base f A n c bb ba bl av M p) (hp : n < p + 3) : PS w base f A n c bb ba bl av M (p + 1) :=
  ⟨h.arr, h.boxb, h.boxa, h.boxl, by rw [aheadL_none f hp]; exact h.row, (h.map.mono (Nat.le_succ p)).congr fun ks _ => (lastO_none f hp ks).symm, h.hb, h.ha, h.hl, h.hM⟩
theorem PS.apart (h : PS w base f A n c bb ba bl av M p) : ¬ PutS av M bb ∧ ¬ PutS av M ba ∧ ¬ PutS av M bl ∧ av.ownBlock ≠ some M ∧ ∀ k, k < base → ¬ PutS av M k :=
  ⟨fun e => e.elim (row_ne_cells h.row h.boxb (by decide)) fun e => h.map.ne_cells h.boxb e.symm, fun e => e.elim (row_ne_cells h.row h.boxa (by decide)) fun e => h.map.ne_cells h.boxa e.symm,
    fun e => e.elim (row_ne_cells h.row h.boxl (by decide)) fun e => h.map.ne_cells h.boxl e.symm, h.map.ne_row h.row, fun k hk e => e.elim (fun e => by have := (h.row.lt k e).1; omega) fun e => by have := h.hM; omega⟩
theorem PS.done (h : PS w base f A n c bb ba bl av M p) (hp : p + 3 ≤ n) (hrow : w'.ownsRow base 3 1 av n (aheadL f n (p + 1)))
    (hmap : Tm Try.prog w' 72 3 3 M (p + 1) (fun ks => if ks = [f p, f (p + 1), f (p + 2)] then some (p : Int) else lastO f n p ks)) (hk : Keeps (PutS av M) w w') : PS w' base f A n c bb ba bl av M (p + 1) := by
  obtain ⟨h1, h2, h3, h4, h5⟩ := h.apart
  exact ⟨hk.arr h.arr h5, hk.heap h.boxb h1, hk.heap h.boxa h2, hk.heap h.boxl h3, hrow, hmap.congr fun ks hks => lastO_some f hp hks, h.hb, h.ha, h.hl, h.hM⟩
end
theorem keep_set_alloc {S : Nat → Prop} (w : World) (o : Obj) (g p : Nat) (v : Value) (hS : S g) : Keeps S w ((w.setCell ⟨g, p, none⟩ v).alloc o) :=
  (Keeps.setCell S w ⟨g, p, none⟩ v hS).trans (Keeps.alloc S _ o) fun _ _ h => h
theorem tm_set {P : Program} {w : World} {k e : TypeId} {N B n : Nat} {L : List Int → Option Int} (h : Tm P w k e N B n L) (o : Obj) (g p : Nat) (v : Value) (hg : g ≠ B) : Tm P ((w.setCell ⟨g, p, none⟩ v).alloc o) k e N B n L :=
  h.keeps ((keep_set_alloc (S := fun k => k = g) w o g p v rfl).block B h.lt fun e => hg e.symm)
theorem tm_set2 {P : Program} {w : World} {k e : TypeId} {N B n : Nat} {L : List Int → Option Int} (h : Tm P w k e N B n L) (g p : Nat) (v : Value) (hg : g ≠ B) : Tm P (w.setCell ⟨g, p, none⟩ v) k e N B n L :=
  h.keeps ((Keeps.setCell (fun k => k = g) w ⟨g, p, none⟩ v rfl).block B h.lt fun e => hg e.symm)
set_option maxHeartbeats 2000000 in
theorem put30 (w : World) (base : Nat) (f : Nat → Int) (A : Option Addr) (n c bb ba bl : Nat) (av : Value) (M p : Nat) (h : PS w base f A n c bb ba bl av M p) (hn : n ≤ 65536) (hp : p < n) (hnc : n ≤ c) (hf : ∀ i, i < n → 0 ≤ f i ∧ f i < 256) :
    Calls Try.prog 30 #[.int .i64 p, .pointer (some ⟨bb, 0, none⟩), .pointer (some ⟨ba, 0, none⟩), .pointer (some ⟨bl, 0, none⟩)] w fun e w' => e = .returned undef ∧ PS w' base f A n c bb ba bl av M (p + 1) ∧ Keeps (PutS av M) w w' := by
  obtain ⟨g, ca, rfl, hgb, hgz⟩ := h.row.form (by omega)
  have HP := Lib.hid h
  have c1 : w.cell? ⟨bb, 0, none⟩ = some (.slice A n c) := block_cell h.boxb 0 _ rfl
  have c2 : w.cell? ⟨ba, 0, none⟩ = some (.slice (some ⟨g, 0, none⟩) n ca) := block_cell h.boxa 0 _ rfl
  have c3 : w.cell? ⟨bl, 0, none⟩ = some (.map (some M)) := block_cell h.boxl 0 _ rfl
  by_cases h3 : n < p + 3
  · have t1 : decide ((n : Int) < p + 3) = true := by simp; omega
    clear h
    go_enter Try.func30, Try.ntmps30
    go_wp2_with fail
    refine bodyPost_ret (v := undef) (results_none rfl _ _ _) rfl ?_
    exact ⟨rfl, HP.out.pass h3, Keeps.refl _ _⟩
  · obtain ⟨b, off, rfl, hb, hc⟩ := h.arr (by omega)
    have t1 : decide ((n : Int) < p + 3) = false := by simp; omega
    have hgM : g ≠ M := fun e => h.map.ne_row h.row (by rw [e]; rfl)
    have hgb2 : g ≠ ba := fun e => row_ne_cells h.row h.boxa (by decide) (by rw [e]; rfl)
    have hgb3 : g ≠ bb := fun e => row_ne_cells h.row h.boxb (by decide) (by rw [e]; rfl)
    have hgb4 : g ≠ bl := fun e => row_ne_cells h.row h.boxl (by decide) (by rw [e]; rfl)
    have hfz : w.frozen? ⟨g, p, none⟩ = false := h.row.frozenAt p
    obtain ⟨u, hck⟩ : ∃ u, w.cell? ⟨g, p, none⟩ = some u := ⟨_, (h.row.cellAt p (by omega)).trans (aheadL_at f hp)⟩
    have a72 := fun u => arrayAt72 (some ⟨b, off + p, none⟩) (n - p) (c - p) (by omega) u
    have hk : KeyOk 3 [f p, f (p + 1), f (p + 2)] := ⟨rfl, fun x hx => by
      simp at hx
      rcases hx with rfl | rfl | rfl
      · exact hf p hp
      · exact hf (p + 1) (by omega)
      · exact hf (p + 2) (by omega)⟩
    have hlo := lastO_at f (n := n) (p := p)
    have hpv := lastF_bd (b := f) (n := n) (x := f p) (y := f (p + 1)) (z := f (p + 2)) p
    have hdn := fun w' => h.done (w' := w') (by omega)
    obtain ⟨x, hx⟩ : ∃ x, x = f p := ⟨_, rfl⟩
    obtain ⟨y, hy⟩ : ∃ x, x = f (p + 1) := ⟨_, rfl⟩
    obtain ⟨z, hz⟩ : ∃ x, x = f (p + 2) := ⟨_, rfl⟩
    have d0 : w.cell? ⟨b, off + p, none⟩ = some (.int .u8 x) := hx ▸ hc p (by omega)
    have d1 : w.cell? ⟨b, off + p + 1, none⟩ = some (.int .u8 y) := hy ▸ hc (p + 1) (by omega)
    have d2 : w.cell? ⟨b, off + p + 2, none⟩ = some (.int .u8 z) := hz ▸ hc (p + 2) (by omega)
    have hbg : b ≠ g := by omega
    have l1 : ba < w.heap.size := heap_lt h.boxa
    have l2 : bl < w.heap.size := heap_lt h.boxl
    have l3 : bb < w.heap.size := heap_lt h.boxb
    have l4 : b < w.heap.size := by have := h.hb; omega
    rw [← hx, ← hy, ← hz] at hk hlo
    rw [← hx, ← hy, ← hz] at hdn
    have hpv2 : prevF f n p = -1 ∨ 0 ≤ prevF f n p := by
      rcases hpv with e | ⟨q, e, -⟩
      · exact .inl e
      · exact .inr (by rw [show prevF f n p = q from e]; omega)
    have HK := Lib.hid hk
    have HL := Lib.hid hlo
    have HD := Lib.hid hdn
    have HM := Lib.hid h.map
    have HRW := Lib.hid h.row
    have HA := Lib.hid (aheadL_some f (n := n) (p := p) (by omega))
    clear h hx hy hz hc hk hlo hpv hdn hf
    by_cases hneg : prevF f n p < 0
    · have hr : (if true then Value.tuple #[.int .i64 ((lastO f n p [x, y, z]).getD 0), .bool (lastO f n p [x, y, z]).isSome] else .int .i64 ((lastO f n p [x, y, z]).getD 0)) = .tuple #[.int .i64 0, .bool false] := by
        rw [HL.out.1, HL.out.2, if_pos hneg]; simp [hneg]
      have HR := Lib.hid hr
      have hpm : prevF f n p = -1 := by omega
      have HPM := Lib.hid hpm
      clear hr hpm hneg hpv2
      go_enter Try.func30, Try.ntmps30
      go_wp2_with (first | (at_lookup; refine wpList_tm_look _ rfl _ _ 70 72 3 true rfl (tm_set HM.out _ g p _ hgM) keyed72 Try.underlying70 Try.underlying3 (zero3 _) rfl [x, y, z] rfl HK.out (key72 HK.out) _ HR.out ?_) | (at_mapUpdate; refine wpList_tm_put _ rfl _ _ _ 70 72 3 rfl (tm_set HM.out _ g p _ hgM) keyed72 Try.underlying70 Try.underlying3 (by unfold maxLen; omega) rfl [x, y, z] rfl HK.out (key72 HK.out) (p : Int) rfl (wf_i64 (by omega)) ?_; intro w3 h3 g3))
      refine bodyPost_end (results_none rfl _ _ _) rfl ?_
      have hk := (keep_set_alloc (S := PutS (.slice (some ⟨g, 0, none⟩) n ca) M) w (.cells #[.int .u8 x, .int .u8 y, .int .u8 z] 72) g p (.int .i64 (-1)) (.inl rfl)).trans (Keeps.grown g3 fun k e => .inr (Option.some.inj e).symm) fun _ _ h => h
      refine ⟨rfl, HD.out _ ?_ h3 hk, hk⟩
      rw [← HA.out, HPM.out]
      exact (Keeps.grown (S := fun k => k = M) g3 fun k e => (Option.some.inj e).symm).row ((HRW.out.stored p (.int .i64 (-1))).1.alloc _) fun k e h => hgM ((Option.some.inj e).trans h)
    · have hr : (if true then Value.tuple #[.int .i64 ((lastO f n p [x, y, z]).getD 0), .bool (lastO f n p [x, y, z]).isSome] else .int .i64 ((lastO f n p [x, y, z]).getD 0)) = .tuple #[.int .i64 (prevF f n p), .bool true] := by
        rw [HL.out.1, HL.out.2, if_neg hneg]; simp [hneg]
      obtain ⟨v, hv⟩ : ∃ v, v = prevF f n p := ⟨_, rfl⟩
      rw [← hv] at hr
      have HR := Lib.hid hr
      have HPM := Lib.hid hv
      clear hr hneg hpv2 hv
      go_enter Try.func30, Try.ntmps30
      go_wp2_with (first | (at_lookup; refine wpList_tm_look _ rfl _ _ 70 72 3 true rfl (tm_set HM.out _ g p _ hgM) keyed72 Try.underlying70 Try.underlying3 (zero3 _) rfl [x, y, z] rfl HK.out (key72 HK.out) _ HR.out ?_) | (at_mapUpdate; refine wpList_tm_put _ rfl _ _ _ 70 72 3 rfl (tm_set (tm_set2 HM.out g p _ hgM) _ g p _ hgM) keyed72 Try.underlying70 Try.underlying3 (by unfold maxLen; omega) rfl [x, y, z] rfl HK.out (key72 HK.out) (p : Int) rfl (wf_i64 (by omega)) ?_; intro w3 h3 g3))
      refine bodyPost_end (results_none rfl _ _ _) rfl ?_
      have hk := ((Keeps.setCell (PutS (.slice (some ⟨g, 0, none⟩) n ca) M) w ⟨g, p, none⟩ (.int .i64 (-1)) (.inl rfl)).trans (keep_set_alloc (S := PutS (.slice (some ⟨g, 0, none⟩) n ca) M) _ (.cells #[.int .u8 x, .int .u8 y, .int .u8 z] 72) g p (.int .i64 v) (.inl rfl)) fun _ _ h => h).trans (Keeps.grown g3 fun k e => .inr (Option.some.inj e).symm) fun _ _ h => h
      refine ⟨rfl, HD.out _ ?_ h3 hk, hk⟩
      have hrow := ((HRW.out.stored p (.int .i64 (-1))).1.stored p (.int .i64 v)).1
      rw [List.set_set, HPM.out, HA.out, ← HPM.out] at hrow
      exact (Keeps.grown (S := fun k => k = M) g3 fun k e => (Option.some.inj e).symm).row (hrow.alloc _) fun k e h => hgM ((Option.some.inj e).trans h)
end Go.Proofs.Ytbaibkckigdndaa
