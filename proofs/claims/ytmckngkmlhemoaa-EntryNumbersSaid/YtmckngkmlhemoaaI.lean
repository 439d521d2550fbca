/- Right items of kind 1 (layer 14, entry): the document's Right; loads and == in the midst of a region. -/
import Derived.Test.YtmckngkmlhemoaaH
namespace Go.Proofs.Ytmckngkmlhemoaa
open Go.RowKit
/-- What lies below a place lies there still. -/
theorem cell_kept {n : Nat} {w w' : World} (h : Below n w w') {b o : Nat} (hb : b < n) {v : Value} (hc : w.cell? ⟨b, o, none⟩ = some v) : w'.cell? ⟨b, o, none⟩ = some v :=
  (h.cell (p := ⟨b, o, none⟩) hb).trans hc
section
variable {P : Program}
theorem wpList_load_midG {ops : Array Oper} {rest : List Oper} {op : Oper} {a : Act} {w : World} {Q : Exit → Act → World → Prop} (hg : Region.wanted op (yielded ops a.tmps) = true) (ty : TypeId) (x : Operand) (ho : op.op = .load ty x)
    (b o : Nat) (hx : a.eval x = .pointer (some ⟨b, o, none⟩)) (cs : List Value) (d : TypeDesc) (hc : w.rangeAt b o cs)
    (hu : P.underlying ty = some d) (hd : d.isRow = true) (hi : (P.info? ty).map (·.size) = some cs.length)
    (h : wpList P ops Q rest (a.put op.dst (.agg cs.toArray)) w) : wpList P ops Q (op :: rest) a w :=
  BigFrame.wpList_want hg fun _ hK => wp_load_mid ty x ho b o hx cs d hc hu hd hi (hK _ _ h)
/-- What == of two structs or arrays tells (a name, so that nothing unfolds it). -/
structure EqRun (P : Program) (ty : TypeId) (xs ys : Array Value) (w : World) (r : Bool) : Prop where
  run : (Op.equalIn 10000 ty (.agg xs) (.agg ys)).run P w = .ok r w
theorem wp_eql {op : Oper} {a : Act} {w : World} {K : Act → World → Prop} {Q : Exit → Act → World → Prop} (ty : TypeId) (x y : Operand) (ho : op.op = .binOp .eql ty x y ty)
    (xs ys : Array Value) (hx : a.eval x = .agg xs) (hy : a.eval y = .agg ys) (r : Bool) (hm : P.eqGuardType P.depth ty = false)
    (hr : EqRun P ty xs ys w r) (h : K (a.put op.dst (.bool r)) w) : op.wp P a w K Q := by
  unfold Oper.wp execOp
  simp only [ho, hx, hy, Sem.run_bind, run_eqGuard_agg w .eql ty x y xs ys hm, Result.andThen_ok, run_eql_struct w ty xs ys, hr.run, Sem.run_pure]
  exact h
theorem wpList_eqlG {ops : Array Oper} {rest : List Oper} {op : Oper} {a : Act} {w : World} {Q : Exit → Act → World → Prop} (hg : Region.wanted op (yielded ops a.tmps) = true) (ty : TypeId) (x y : Operand) (ho : op.op = .binOp .eql ty x y ty)
    (xs ys : Array Value) (hx : a.eval x = .agg xs) (hy : a.eval y = .agg ys) (r : Bool) (hm : P.eqGuardType P.depth ty = false)
    (hr : EqRun P ty xs ys w r) (h : wpList P ops Q rest (a.put op.dst (.bool r)) w) : wpList P ops Q (op :: rest) a w :=
  BigFrame.wpList_want hg fun _ hK => wp_eql ty x y ho xs ys hx hy r hm hr (hK _ _ h)
end
/-- Are all of these cells nought? -/
def zeroB (xs : List Value) : Bool := xs.all fun v => match v with
  | .int _ z => z == 0
  | _ => false
theorem zeroB_iff : ∀ {xs : List Value} {ks : List IntKind}, Fits xs ks → (zeroB xs = true ↔ xs = ks.map fun k => .int k 0)
  | [], [], _ => by simp [zeroB]
  | _ :: _, [], h => h.elim
  | [], _ :: _, h => h.elim
  | x :: xs, k :: ks, h => by
    obtain ⟨⟨z, rfl, _⟩, h⟩ := h
    have ih := zeroB_iff h
    have e : zeroB (.int k z :: xs) = (z == 0 && zeroB xs) := by simp [zeroB]
    rw [e, Bool.and_eq_true, ih]
    simp
theorem fits_zeros : ∀ (ks : List IntKind), Fits (ks.map fun k => .int k 0) ks
  | [] => trivial
  | k :: ks => ⟨⟨0, rfl, by cases k <;> rfl⟩, fits_zeros ks⟩
theorem eqg24 : Try.prog.eqGuardType Try.prog.depth 24 = false := by kernel_rfl
theorem eqg26 : Try.prog.eqGuardType Try.prog.depth 26 = false := by kernel_rfl
theorem eqg28 : Try.prog.eqGuardType Try.prog.depth 28 = false := by kernel_rfl
theorem eqz24 {xs : List Value} (h : Fits xs keyK) (w : World) : EqRun Try.prog 24 xs.toArray (keyK.map fun k => Value.int k 0).toArray w (zeroB xs) := by
  obtain ⟨r, hr, hi⟩ := eql_fits (P := Try.prog) (t := 24) (m := 5) (d := 5) (by omega) key24 leafs24 (xs := xs.toArray) (ys := (keyK.map fun k => Value.int k 0).toArray) (by simp [Value.formed, Try.underlying24, h.length]; kernel_rfl) (by simp [Value.formed, Try.underlying24]; kernel_rfl) (by simpa using h) (by simpa using fits_zeros keyK) w
  rw [show r = zeroB xs from Bool.eq_iff_iff.2 (hi.trans ((by simp : xs.toArray = (keyK.map fun k => Value.int k 0).toArray ↔ xs = keyK.map fun k => Value.int k 0).trans (zeroB_iff h).symm))] at hr
  exact ⟨hr⟩
theorem eqz26 {xs : List Value} (h : Fits xs placeK) (w : World) : EqRun Try.prog 26 xs.toArray (placeK.map fun k => Value.int k 0).toArray w (zeroB xs) := by
  obtain ⟨r, hr, hi⟩ := eql_fits (P := Try.prog) (t := 26) (m := 5) (d := 5) (by omega) key26 leafs26 (xs := xs.toArray) (ys := (placeK.map fun k => Value.int k 0).toArray) (by simp [Value.formed, Try.underlying26, h.length]; kernel_rfl) (by simp [Value.formed, Try.underlying26]; kernel_rfl) (by simpa using h) (by simpa using fits_zeros placeK) w
  rw [show r = zeroB xs from Bool.eq_iff_iff.2 (hi.trans ((by simp : xs.toArray = (placeK.map fun k => Value.int k 0).toArray ↔ xs = placeK.map fun k => Value.int k 0).trans (zeroB_iff h).symm))] at hr
  exact ⟨hr⟩
theorem eqz28 {xs : List Value} (h : Fits xs sliceK) (w : World) : EqRun Try.prog 28 xs.toArray (sliceK.map fun k => Value.int k 0).toArray w (zeroB xs) := by
  obtain ⟨r, hr, hi⟩ := eql_fits (P := Try.prog) (t := 28) (m := 5) (d := 5) (by omega) key28 leafs28 (xs := xs.toArray) (ys := (sliceK.map fun k => Value.int k 0).toArray) (by simp [Value.formed, Try.underlying28, h.length]; kernel_rfl) (by simp [Value.formed, Try.underlying28]; kernel_rfl) (by simpa using h) (by simpa using fits_zeros sliceK) w
  rw [show r = zeroB xs from Bool.eq_iff_iff.2 (hi.trans ((by simp : xs.toArray = (sliceK.map fun k => Value.int k 0).toArray ↔ xs = sliceK.map fun k => Value.int k 0).trans (zeroB_iff h).symm))] at hr
  exact ⟨hr⟩
set_option maxRecDepth 100000 in
set_option maxHeartbeats 1000000 in
theorem right21_1 (cs : Array Value) (key : List Value) (pa ps pu pr sn un : Int) (sl : List Value) (so sm : Int) (w : World) (hi : ItemIs cs 1 key pa ps pu pr sn un sl so sm) (hf : Fits sl sliceK) :
    Calls Try.prog 21 #[.agg cs] w fun e w' => e = .returned (.bool (placeB pa ps pu pr true && sn == 0 && un == 0 && zeroB sl)) ∧ Below w.heap.size w w' := by
  have H := Lib.hid hi
  have hfH := Lib.hid hf
  obtain ⟨c0, c1, c2, c3, c4, c5⟩ := hi.at_ (heap_new w (.cells cs 30))
  have d0 := c2 0 _ rfl
  have d1 := c2 1 _ rfl
  have d2 := c2 2 _ rfl
  have d3 := c2 3 _ rfl
  simp only [Nat.add_zero, Nat.reduceAdd] at d0 d1 d2 d3
  have HW := Lib.hid ((Below.refl _ w).alloc (Nat.le_refl w.heap.size) (.cells cs 30))
  have hls : Hid ((Try.prog.info? 28).map (·.size) = some sl.length) := Lib.hid (by rw [H.out.sl_len]; exact info28)
  have hlt : w.heap.size < (w.alloc (.cells cs 30)).heap.size := by simp
  clear hi c2 hf
  cases hp : placeB pa ps pu pr true
  · go_enter Try.func21, Try.ntmps21
    go_wp2_with fail
    refine (place26 pa ps pu pr true _).mono ?_
    rintro e w1 ⟨rfl, h1⟩
    rw [hp]
    go_wp2_with fail
    refine ⟨rfl, _, results_tmp rfl _ _ _, ?_⟩
    exact ⟨by simp_all [go_sem], HW.out.trans (h1.mono (by simp))⟩
  · cases hs : (sn == 0)
    · go_enter Try.func21, Try.ntmps21
      go_wp2_with fail
      refine (place26 pa ps pu pr true _).mono ?_
      rintro e w1 ⟨rfl, h1⟩
      rw [hp]
      have c3 := cell_kept h1 hlt c3
      go_wp2_with fail
      refine ⟨rfl, _, results_tmp rfl _ _ _, ?_⟩
      exact ⟨by simp_all [go_sem], HW.out.trans (h1.mono (by simp))⟩
    · cases hu : (un == 0)
      · go_enter Try.func21, Try.ntmps21
        go_wp2_with fail
        refine (place26 pa ps pu pr true _).mono ?_
        rintro e w1 ⟨rfl, h1⟩
        rw [hp]
        have c3 := cell_kept h1 hlt c3
        have c4 := cell_kept h1 hlt c4
        go_wp2_with fail
        refine ⟨rfl, _, results_tmp rfl _ _ _, ?_⟩
        exact ⟨by simp_all [go_sem], HW.out.trans (h1.mono (by simp))⟩
      · go_enter Try.func21, Try.ntmps21
        go_wp2_with fail
        refine (place26 pa ps pu pr true _).mono ?_
        rintro e w1 ⟨rfl, h1⟩
        rw [hp]
        have c3 := cell_kept h1 hlt c3
        have c4 := cell_kept h1 hlt c4
        have c5 : w1.rangeAt w.heap.size 39 sl := fun j v hv => cell_kept h1 hlt (c5 j v hv)
        have hz := eqz28 hfH.out w1
        go_wp2_with first | (refine wpList_load_midG rfl 28 (.tmp 21) rfl w.heap.size 39 rfl sl _ c5 Try.underlying28 rfl hls.out ?_) | (refine wpList_eqlG rfl 28 (.tmp 22) (.tmp 23) rfl sl.toArray _ rfl rfl _ eqg28 hz ?_)
        refine ⟨rfl, _, results_tmp rfl _ _ _, ?_⟩
        exact ⟨by simp_all [go_sem], HW.out.trans (h1.mono (by simp))⟩
end Go.Proofs.Ytmckngkmlhemoaa
