/- Layer 23 (maps): Set and Clear. Printed by genNh.py. -/
import Derived.Test.YtodhaaaodmcplaaGreatNg
import Derived.Lib.MinMax
set_option linter.all false
namespace Go.Proofs.YtodhaaaodmcplaaGreat
open Go.RowKit Go.Maps Go.WideMaps
theorem setB_no {st : MS} {un : Int} {s : Sl} (h : ¬ (0 ≤ un ∧ un < st.n ∧ 0 ≤ s.o ∧ s.o < 16 ∧ 1 ≤ s.m ∧ s.m ≤ 255)) : setE st un s = 2 ∧ setM st un s = st := by
  have hb : ¬ setB st un s = true := by
    unfold setB okS
    simp only [Bool.and_eq_true, decide_eq_true_eq]
    exact fun x => h ⟨x.1.1, x.1.2, x.2.1.1.1, x.2.1.1.2, x.2.1.2, x.2.2⟩
  unfold setE setM
  rw [if_neg hb, if_neg hb]
  exact ⟨rfl, rfl⟩
theorem setB_yes {st : MS} {un : Int} {s : Sl} (h : 0 ≤ un ∧ un < st.n ∧ 0 ≤ s.o ∧ s.o < 16 ∧ 1 ≤ s.m ∧ s.m ≤ 255) : setE st un s = 0 ∧ setM st un s = { st with now := upd st.now un.toNat (mkS s) } := by
  have hb : setB st un s = true := by
    unfold setB okS
    simp only [Bool.and_eq_true, decide_eq_true_eq]
    exact ⟨⟨h.1, h.2.1⟩, ⟨⟨h.2.2.1, h.2.2.2.1⟩, h.2.2.2.2.1⟩, h.2.2.2.2.2⟩
  unfold setE setM
  rw [if_pos hb, if_pos hb]
  exact ⟨rfl, rfl⟩
theorem clearB_no {st : MS} {p n : Int} (h : ¬ (0 ≤ p ∧ 0 ≤ n ∧ p ≤ 8 * st.n ∧ n ≤ 8 * st.n - p)) : clearE st p n = 2 ∧ clearM st p n = st := by
  have hb : ¬ clearB st p n = true := by
    unfold clearB
    simp only [Bool.and_eq_true, decide_eq_true_eq]
    exact fun x => h ⟨x.1.1.1, x.1.1.2, x.1.2, x.2⟩
  unfold clearE clearM
  rw [if_neg hb, if_neg hb]
  exact ⟨rfl, rfl⟩
theorem clearB_yes {st : MS} {p n : Int} (h : 0 ≤ p ∧ 0 ≤ n ∧ p ≤ 8 * st.n ∧ n ≤ 8 * st.n - p) : clearE st p n = 0 ∧ clearM st p n = { st with now := clearF st.now p.toNat (p + n).toNat } := by
  have hb : clearB st p n = true := by
    unfold clearB
    simp only [Bool.and_eq_true, decide_eq_true_eq]
    exact ⟨⟨⟨h.1, h.2.1⟩, h.2.2.1⟩, h.2.2.2⟩
  unfold clearE clearM
  rw [if_pos hb, if_pos hb]
  exact ⟨rfl, rfl⟩
/-- Maps turned, behind what a call has made. -/
theorem outM {n0 : Nat} {w w1 w2 : World} {p mb : Nat} {st : MS} {S : Nat → Prop} (hb : Below w.heap.size w w1) (hk : Keeps S w1 w2) (hS : ∀ k, S k → k = p ∨ k = mb) (h : Ms n0 w2 p mb st) : OutM n0 w w2 p mb st := ⟨h, (Keeps.fresh hb).trans hk fun i _ hi => hS i hi⟩
theorem outB {n0 : Nat} {w w1 : World} {p mb : Nat} {st : MS} (hb : Below w.heap.size w w1) (h : Ms n0 w1 p mb st) : OutM n0 w w1 p mb st := ⟨h, Keeps.fresh hb⟩
theorem outT {n0 : Nat} {w w1 w2 : World} {p mb : Nat} {st st2 : MS} (h : OutM n0 w w1 p mb st) (h2 : OutM n0 w1 w2 p mb st2) : OutM n0 w w2 p mb st2 := ⟨h2.1, h.2.trans h2.2 fun _ _ e => e⟩
set_option maxRecDepth 100000 in
set_option maxHeartbeats 2000000 in
theorem set_p {n0 : Nat} {w : World} {p mb : Nat} {st : MS} (h : Ms n0 w p mb st) (un : Int) (s : Sl) (hk : KeyOk 32 s.k) : Calls Tryz.prog 19 #[.pointer (some ⟨p, 0, none⟩), .int .i64 un, .agg (slC s.k s.o s.m).toArray] w fun e w' => e = .returned (.int .i64 (setE st un s)) ∧ OutM n0 w w' p mb (setM st un s) := by
  obtain ⟨A, hx⟩ := h
  have H := Lib.hid hx
  have A1 := Lib.hid (slC_at hk.len s.o s.m)
  have HL := Lib.hid (slC_len hk.len s.o s.m)
  have HO := Lib.hid (slC_one s.k s.o s.m)
  have HK := Lib.hid hk
  have HCS : Hid (OkSl s → slC s.k s.o s.m = slcC (mkS s)) := Lib.hid fun h => by rw [mkS_of h]; rfl
  obtain ⟨cs, hcs⟩ : ∃ cs, cs = slC s.k s.o s.m := ⟨_, rfl⟩
  rw [← hcs] at A1 HL HO HCS ⊢
  have HSZ : Hid ((Tryz.prog.info? 33).map (·.size) = some cs.length) := Lib.hid (by rw [HL.out]; exact infoSl)
  clear hcs hx hk
  go_enter Tryz.func19, Tryz.ntmps19
  go_upto_region 1 with (refine Go.Great.wpList_boxTo rfl 33 (.tmp 2) rfl (some 5) rfl _ rfl cs.toArray rfl ?_)
  obtain ⟨q, hq⟩ : ∃ q, q = w.heap.size := ⟨_, rfl⟩
  obtain ⟨w1, hw1⟩ : ∃ z, z = w.alloc (.cells cs.toArray 33) := ⟨_, rfl⟩
  have B1 : Hid (Below w.heap.size w w1) := Lib.hid (by rw [hw1]; exact (Below.refl _ _).alloc (Nat.le_refl _) _)
  have Q1 : Hid (w1.heap[q]? = some (.cells cs.toArray 33 (0, 0))) := Lib.hid (by rw [hw1, hq]; exact heap_new w _)
  have H1 : Hid (Mx n0 w1 p mb st A) := Lib.hid (H.out.go B1.out)
  rw [← hw1, ← hq]
  have HQ := Lib.hid hq
  clear hw1 hq H
  have c32 : w1.cell? ⟨q, 32, none⟩ = some (.int .i64 s.o) := by have := range_of Q1.out 32 _ A1.out.1; rwa [Nat.zero_add] at this
  have c33 : w1.cell? ⟨q, 33, none⟩ = some (.int .i64 s.m) := by have := range_of Q1.out 33 _ A1.out.2; rwa [Nat.zero_add] at this
  have cn := H1.out.n_cell
  have hn := H1.out.inv.n
  obtain ⟨n, hn1⟩ : ∃ n, n = st.n := ⟨_, rfl⟩
  obtain ⟨so, hso⟩ : ∃ z, z = s.o := ⟨_, rfl⟩
  obtain ⟨sm, hsm⟩ : ∃ z, z = s.m := ⟨_, rfl⟩
  rw [← hn1] at cn hn
  rw [← hso] at c32
  rw [← hsm] at c33
  by_cases h0 : un < 0
  · have d0 : decide (un < 0) = true := by simpa using h0
    have HE := Lib.hid (setB_no (st := st) (un := un) (s := s) (by omega))
    clear hn hn1 hso hsm
    go_wp2_with fail
    refine (known_y H1.out).mono ?_
    rintro e _ ⟨rfl, rfl⟩
    go_wp2_with fail
    go_ret
    exact ⟨ret_int HE.out.1.symm, by rw [HE.out.2]; exact outB B1.out ⟨A, H1.out⟩⟩
  have d0 : decide (un < 0) = false := by simpa using h0
  by_cases h1 : (n : Int) ≤ un
  · have d1 : decide ((n : Int) ≤ un) = true := by simpa using h1
    have HE := Lib.hid (setB_no (st := st) (un := un) (s := s) (by omega))
    clear hn hn1 hso hsm h0
    go_wp2_with fail
    refine (known_y H1.out).mono ?_
    rintro e _ ⟨rfl, rfl⟩
    go_wp2_with fail
    go_ret
    exact ⟨ret_int HE.out.1.symm, by rw [HE.out.2]; exact outB B1.out ⟨A, H1.out⟩⟩
  have d1 : decide ((n : Int) ≤ un) = false := by simpa using h1
  by_cases h2 : so < 0
  · have d2 : decide (so < 0) = true := by simpa using h2
    have HE := Lib.hid (setB_no (st := st) (un := un) (s := s) (by omega))
    clear hn hn1 hso hsm h0 h1
    go_wp2_with fail
    refine (known_y H1.out).mono ?_
    rintro e _ ⟨rfl, rfl⟩
    go_wp2_with fail
    go_ret
    exact ⟨ret_int HE.out.1.symm, by rw [HE.out.2]; exact outB B1.out ⟨A, H1.out⟩⟩
  have d2 : decide (so < 0) = false := by simpa using h2
  by_cases h3 : 16 ≤ so
  · have d3 : decide (16 ≤ so) = true := by simpa using h3
    have HE := Lib.hid (setB_no (st := st) (un := un) (s := s) (by omega))
    clear hn hn1 hso hsm h0 h1 h2
    go_wp2_with fail
    refine (known_y H1.out).mono ?_
    rintro e _ ⟨rfl, rfl⟩
    go_wp2_with fail
    go_ret
    exact ⟨ret_int HE.out.1.symm, by rw [HE.out.2]; exact outB B1.out ⟨A, H1.out⟩⟩
  have d3 : decide (16 ≤ so) = false := by simpa using h3
  by_cases h4 : sm < 1
  · have d4 : decide (sm < 1) = true := by simpa using h4
    have HE := Lib.hid (setB_no (st := st) (un := un) (s := s) (by omega))
    clear hn hn1 hso hsm h0 h1 h2 h3
    go_wp2_with fail
    refine (known_y H1.out).mono ?_
    rintro e _ ⟨rfl, rfl⟩
    go_wp2_with fail
    go_ret
    exact ⟨ret_int HE.out.1.symm, by rw [HE.out.2]; exact outB B1.out ⟨A, H1.out⟩⟩
  have d4 : decide (sm < 1) = false := by simpa using h4
  by_cases h5 : 255 < sm
  · have d5 : decide (255 < sm) = true := by simpa using h5
    have HE := Lib.hid (setB_no (st := st) (un := un) (s := s) (by omega))
    clear hn hn1 hso hsm h0 h1 h2 h3 h4
    go_wp2_with fail
    refine (known_y H1.out).mono ?_
    rintro e _ ⟨rfl, rfl⟩
    go_wp2_with fail
    go_ret
    exact ⟨ret_int HE.out.1.symm, by rw [HE.out.2]; exact outB B1.out ⟨A, H1.out⟩⟩
  have d5 : decide (255 < sm) = false := by simpa using h5
  obtain ⟨u, rfl⟩ : ∃ u : Nat, un = u := ⟨un.toNat, by omega⟩
  have HE := Lib.hid (setB_yes (st := st) (un := u) (s := s) (by omega))
  have HOK : Hid (OkSl s) := Lib.hid ⟨HK.out, by omega, by omega⟩
  have hu5 : u < 512 := by omega
  have i1 : (0 : Int) ≤ u := by omega
  have i2 : (u : Int) < 512 := by omega
  have d6 : decide (n ≤ u) = false := by simp; omega
  have HQP : Hid (p ≠ q) := Lib.hid fun e => by have := cells_ne H1.out.blk Q1.out (by decide); exact this e
  clear hn hn1 hso hsm h0 h1 h2 h3 h4 h5
  go_wp2_with fail
  refine (known_y H1.out).mono ?_
  rintro e _ ⟨rfl, rfl⟩
  go_wp2_with fail
  have HD : Hid (Mx n0 w1.drew p mb st A) := Lib.hid (H1.out.go (below_drewN (Below.refl _ _) 1))
  have R1 : Hid (∀ W, Keeps (fun k => k = p) w1 W → W.rangeAt q 0 cs) := Lib.hid fun W hk => range_of (hk.heap Q1.out fun e => HQP.out e.symm)
  have K1 : Hid (Keeps (fun k => k = p) w1 w1.drew) := Lib.hid (Keeps.drew _ _)
  refine wp_region_held_drew (S := fun w' : World => w'.rangeAt q 0 cs) follows (R1.out _ K1.out) (fun hHeld => ?_)
  refine wpAnyH_take (i := 0) (v := ?_) (by simp only [List.getElem?_toArray, List.getElem?_cons_zero]; rfl) (by kernel_rfl) (by kernel_rfl) (by kernel_rfl) (by intro _ _ _ h; exact h) (Or.inl ⟨by rfl, ?_⟩) hHeld ?_
  rotate_left
  · (intro w hSw; (try dsimp only at hSw); go_simp; try with_reducible rfl)
  try simp only [Act.put, List.setIfInBounds_toArray, List.set_cons_zero, List.set_cons_succ]
  refine wpAnyH_take (i := 1) (v := ?_) (by simp only [List.getElem?_toArray, List.getElem?_cons_zero, List.getElem?_cons_succ]; rfl) (by kernel_rfl) (by kernel_rfl) (by kernel_rfl) (by intro _ _ _ h; exact h) (Or.inl ⟨by rfl, ?_⟩) hHeld ?_
  rotate_left
  · (intro w hSw; (try dsimp only at hSw); go_simp; try with_reducible rfl)
  try simp only [Act.put, List.setIfInBounds_toArray, List.set_cons_zero, List.set_cons_succ]
  refine wpAnyH_take (i := 2) (v := _) (by simp only [List.getElem?_toArray, List.getElem?_cons_zero, List.getElem?_cons_succ]; rfl) (by kernel_rfl) (by kernel_rfl) (by kernel_rfl) (by intro _ _ _ h; exact h) (yieldsIf_load_mid (by rfl) 33 (.tmp 5) rfl q 0 rfl cs _ (fun _ h => h) Tryz.underlying33 rfl HSZ.out) hHeld ?_
  try simp only [Act.put, List.setIfInBounds_toArray, List.set_cons_zero, List.set_cons_succ]
  refine wpAnyH_take (i := 3) (v := ?_) (by simp only [List.getElem?_toArray, List.getElem?_cons_zero, List.getElem?_cons_succ]; rfl) (by kernel_rfl) (by kernel_rfl) (by kernel_rfl) (by intro _ _ _ h; exact h) (Or.inl ⟨by rfl, ?_⟩) hHeld ?_
  rotate_left
  · (intro w hSw; (try dsimp only at hSw); go_simp; try with_reducible rfl)
  try simp only [Act.put, List.setIfInBounds_toArray, List.set_cons_zero, List.set_cons_succ]
  refine wpAnyH_take (i := 4) (v := ?_) (by simp only [List.getElem?_toArray, List.getElem?_cons_zero, List.getElem?_cons_succ]; rfl) (by kernel_rfl) (by kernel_rfl) (by kernel_rfl) (by intro _ _ _ h; exact h) (Or.inl ⟨by rfl, ?_⟩) hHeld ?_
  rotate_left
  · (intro w hSw; (try dsimp only at hSw); go_simp; try with_reducible rfl)
  try simp only [Act.put, List.setIfInBounds_toArray, List.set_cons_zero, List.set_cons_succ]
  refine wpAnyH_take (i := 5) (v := ?_) (by simp only [List.getElem?_toArray, List.getElem?_cons_zero, List.getElem?_cons_succ]; rfl) (by kernel_rfl) (by kernel_rfl) (by kernel_rfl) (by intro _ _ _ h; exact h) (Or.inl ⟨by rfl, ?_⟩) hHeld ?_
  rotate_left
  · (intro w hSw; (try dsimp only at hSw); go_simp; try with_reducible rfl)
  try simp only [Act.put, List.setIfInBounds_toArray, List.set_cons_zero, List.set_cons_succ]
  refine wpAnyH_ready (rs := [6]) (by kernel_rfl) (by simp) ?_
  refine AllReadyH.cons (by simp only [List.getElem?_toArray, List.getElem?_cons_zero, List.getElem?_cons_succ]; rfl) (fun K hK => ?_) AllReadyH.nil
  rw [if_pos (by rfl)]
  refine wp_store_segK 33 (.tmp 47) (.tmp 44) rfl p (1 + u * 34) rfl cs rfl (mxL st.n st.now (.map (some mb))) 53 HD.out.blk HSZ.out (by rw [HL.out, mxL_len]; omega) HO.out (fun w4 h4 k4 s4 => ?_)
  have K4 := Lib.hid (K1.out.trans k4 fun _ _ e => e)
  have M4 : Hid (Mx n0 w4 p mb { st with now := upd st.now u (mkS s) } A) := Lib.hid (HD.out.turn k4 (fun _ e => e) (by rw [h4, HCS.out HOK.out, mxL_set _ _ _ _ hu5]))
  clear h4 k4 s4
  refine hK.out _ _ (R1.out _ K4.out) (fun hHeld => ?_)
  clear hK K
  try simp only [Act.put, List.setIfInBounds_toArray, List.set_cons_zero, List.set_cons_succ]
  refine wpAnyH_done (by kernel_rfl) ?_ _
  clear hHeld
  go_wp2_with fail
  go_ret
  exact ⟨ret_int HE.out.1.symm, by rw [HE.out.2]; exact outM B1.out K4.out (fun k e => .inl e) ⟨A, M4.out⟩⟩
/-- Numbers shifted, bits taken out. -/
theorem run_shl1 (t : Nat) (h : t ≤ 8) (w : World) : (binOp .shl 3 (.int .i64 1) (.int .i64 (t : Int))).run Tryz.prog w = .ok (.int .i64 ((2 ^ t : Nat) : Int)) w := by
  rcases (by omega : t = 0 ∨ t = 1 ∨ t = 2 ∨ t = 3 ∨ t = 4 ∨ t = 5 ∨ t = 6 ∨ t = 7 ∨ t = 8) with rfl | rfl | rfl | rfl | rfl | rfl | rfl | rfl | rfl
  all_goals kernel_rfl
theorem bits_andNot {mk : Int} (hm : 0 ≤ mk ∧ mk ≤ 255) {f t : Nat} (h1 : f ≤ t) (h2 : t ≤ 8) : bits .andNot .i64 mk (bitsV f t) = clrV mk (bitsV f t) := by
  have hb := clr_bd hm h1 h2
  show IntKind.i64.wrap (clrV mk (bitsV f t)) = _
  exact IntWalk.i64_in _ (by omega)
theorem yields_bin {P : Program} {ops : Array Oper} {S : World → Prop} {op : Oper} {a : Act} (hw : Region.wanted op (yielded ops a.tmps) = true) (b : BinOp) (t t2 : TypeId) (x y : Operand) (ho : op.op = .binOp b t x y t2) (hb : b ≠ .eql ∧ b ≠ .neq) (u v : Value) (hx : a.eval x = u) (hy : a.eval y = v) (r : Value)
    (hr : ∀ w, S w → (binOp b t u v).run P w = .ok r w) : YieldsIf P ops S op r a :=
  .inl ⟨hw, fun w hs => by
    subst hx hy
    have hg : eqGuard b t x y (a.eval x) (a.eval y) = pure () := by
      cases b <;> first | exact absurd rfl hb.1 | exact absurd rfl hb.2 | rfl
    unfold execOp
    simp only [ho, Sem.run_bind, hg, Sem.run_pure, hr w hs, Result.andThen_ok]⟩
theorem pow_bd {t : Nat} (h : t ≤ 8) : 1 ≤ 2 ^ t ∧ 2 ^ t ≤ 256 := ⟨Nat.one_le_two_pow, Nat.pow_le_pow_right (n := 2) (j := 8) (by omega) h⟩
/-- What one round clears. -/
theorem clear_round {F : Mp1} {a j e u f t : Nat} (ha : a ≤ j) (hj : j < e) (hu : u = j / 8) (hf : f = j % 8) (ht : t = min 8 (f + e - j)) : clearF F a (j + (t - f)) = upd (clearF F a j) u (clrS (clearF F a j u) f t) ∧ f < t ∧ t ≤ 8 ∧ j + (t - f) ≤ e := by
  have h1 : f < t ∧ t ≤ 8 ∧ j + (t - f) ≤ e := by omega
  refine ⟨?_, h1⟩
  rw [← clear_comp ha (show j ≤ j + (t - f) by omega), clear_step (u := u) hu (by omega) (by omega), ← hf, show j + (t - f) - 8 * u = t by omega]
def clr1 (s : Slc) (f t : Nat) (h1 : f ≤ t) (h2 : t ≤ 8) : Slc := ⟨⟨s.1.k, s.1.o, clrV s.1.m (bitsV f t)⟩, s.2.key, s.2.o, clr_bd s.2.m h1 h2⟩
theorem clrS_yes {s : Slc} {f t : Nat} (h1 : f ≤ t) (h2 : t ≤ 8) (h : clrV s.1.m (bitsV f t) ≠ 0) : clrS s f t = clr1 s f t h1 h2 := dif_pos ⟨h1, h2, h⟩
theorem clrS_no {s : Slc} {f t : Nat} (h : clrV s.1.m (bitsV f t) = 0) : clrS s f t = sl0 := dif_neg fun x => x.2.2 h
theorem clr1_set (s : Slc) (f t : Nat) (h1 : f ≤ t) (h2 : t ≤ 8) : slcC (clr1 s f t h1 h2) = (slcC s).set 33 (.int .i64 (clrV s.1.m (bitsV f t))) := by
  unfold slcC slC clr1
  rw [List.set_append, if_neg (by rw [u8l_len, s.2.key.len]; omega), u8l_len, s.2.key.len]
  rfl
theorem run_sub1 (a b : Int) (w : World) : (binOp .sub 3 (.int .i64 a) (.int .i64 b)).run Tryz.prog w = .ok (.int .i64 (IntKind.i64.wrap (a - b))) w := by kernel_rfl
theorem run_andNot1 (a b : Int) (w : World) : (binOp .andNot 3 (.int .i64 a) (.int .i64 b)).run Tryz.prog w = .ok (.int .i64 (bits .andNot .i64 a b)) w := by kernel_rfl
theorem upd_upd (F : Mp1) (u : Nat) (a b : Slc) : upd (upd F u a) u b = upd F u b := by
  funext x
  unfold upd
  by_cases h : x = u <;> simp [h]
theorem Mx.mask_cell {n0 : Nat} {w : World} {p mb : Nat} {st : MS} {A : Int → Nat} (h : Mx n0 w p mb st A) {u : Nat} (hu : u < 512) : w.cell? ⟨p, 1 + u * 34 + 33, none⟩ = some (.int .i64 (st.now u).1.m) := h.unit_at hu 33 _ (slC_at (st.now u).2.key.len _ _).2
set_option maxRecDepth 100000 in
set_option maxHeartbeats 4000000 in
theorem clear_p {n0 : Nat} {w : World} {p mb : Nat} {st : MS} (h : Ms n0 w p mb st) (at0 k0 : Int) : Calls Tryz.prog 21 #[.pointer (some ⟨p, 0, none⟩), .int .i64 at0, .int .i64 k0] w fun e w' => e = .returned (.int .i64 (clearE st at0 k0)) ∧ OutM n0 w w' p mb (clearM st at0 k0) := by
  have HS := Lib.hid h
  obtain ⟨A, hx⟩ := h
  have H1 := Lib.hid hx
  have cn := hx.n_cell
  have hn := hx.inv.n
  have HZO := Lib.hid (oneC sl0)
  obtain ⟨n, hn1⟩ : ∃ n, n = st.n := ⟨_, rfl⟩
  rw [← hn1] at cn hn
  obtain ⟨z, hz⟩ : ∃ z : Nat, (n : Int) * 8 = z := ⟨n * 8, by push_cast; rfl⟩
  have hwz : IntKind.i64.wrap (z : Int) = z := IntWalk.i64_in _ (by omega)
  have HN1 := Lib.hid hn1
  clear hx hn1
  go_enter Tryz.func21, Tryz.ntmps21
  go_wp2_with fail
  refine (known_y H1.out).mono ?_
  rintro e _ ⟨rfl, rfl⟩
  go_upto_region 4 with fail
  by_cases h0 : at0 < 0
  · have d0 : decide (at0 < 0) = true := by simpa using h0
    have HE := Lib.hid (clearB_no (st := st) (p := at0) (n := k0) (by have := HN1.out; omega))
    clear hn
    go_wp2_with fail
    go_ret
    exact ⟨ret_int HE.out.1.symm, by rw [HE.out.2]; exact ⟨HS.out, Keeps.refl _ _⟩⟩
  have d0 : decide (at0 < 0) = false := by simpa using h0
  by_cases h1 : k0 < 0
  · have d1 : decide (k0 < 0) = true := by simpa using h1
    have HE := Lib.hid (clearB_no (st := st) (p := at0) (n := k0) (by have := HN1.out; omega))
    clear hn
    go_wp2_with fail
    go_ret
    exact ⟨ret_int HE.out.1.symm, by rw [HE.out.2]; exact ⟨HS.out, Keeps.refl _ _⟩⟩
  have d1 : decide (k0 < 0) = false := by simpa using h1
  obtain ⟨a, rfl⟩ : ∃ a : Nat, at0 = a := ⟨at0.toNat, by omega⟩
  obtain ⟨k, rfl⟩ : ∃ k : Nat, k0 = k := ⟨k0.toNat, by omega⟩
  clear h0 h1
  by_cases h2 : z < a
  · have d2 : decide (z < a) = true := by simpa using h2
    have HE := Lib.hid (clearB_no (st := st) (p := (a : Int)) (n := (k : Int)) (by have := HN1.out; omega))
    clear hn
    go_wp2_with fail
    go_ret
    exact ⟨ret_int HE.out.1.symm, by rw [HE.out.2]; exact ⟨HS.out, Keeps.refl _ _⟩⟩
  have d2 : decide (z < a) = false := by simpa using h2
  have d2i : decide ((z : Int) < a) = false := by simp; omega
  obtain ⟨y, hy⟩ : ∃ y : Nat, (z : Int) - (a : Int) = y := ⟨z - a, by omega⟩
  have hwy : IntKind.i64.wrap (y : Int) = y := IntWalk.i64_in _ (by omega)
  by_cases h3 : y < k
  · have d3 : decide (y < k) = true := by simpa using h3
    have HE := Lib.hid (clearB_no (st := st) (p := (a : Int)) (n := (k : Int)) (by have := HN1.out; omega))
    clear hn
    go_wp2_with fail
    go_ret
    exact ⟨ret_int HE.out.1.symm, by rw [HE.out.2]; exact ⟨HS.out, Keeps.refl _ _⟩⟩
  have d3 : decide (y < k) = false := by simpa using h3
  have d3i : decide ((y : Int) < k) = false := by simp; omega
  obtain ⟨e, he⟩ : ∃ e : Nat, (a : Int) + (k : Int) = e := ⟨a + k, by push_cast; rfl⟩
  have hwe : IntKind.i64.wrap (e : Int) = e := IntWalk.i64_in _ (by omega)
  have hae : a ≤ e := by omega
  have hez : e ≤ 8 * n := by omega
  have HE := Lib.hid (clearB_yes (st := st) (p := a) (n := k) (by have := HN1.out; omega))
  have HAE : Hid ((a : Int).toNat = a ∧ ((a : Int) + (k : Int)).toNat = e) := Lib.hid (by omega)
  have hn5 : n ≤ 512 := hn.2
  clear hn h2 h3 cn
  go_wp2_with fail
  clear hz hwz hy hwy d0 d1 d2 d2i d3 d3i
  go_loopw [1] (fun v wr => ∃ j : Nat, a ≤ j ∧ j ≤ e ∧ v = .int .i64 j ∧ OutM n0 w wr p mb { st with now := clearF st.now a j }) (fun v _ => e - (Go.RowKit.intOf v).toNat)
  case atStart => exact ⟨a, Nat.le_refl _, hae, rfl, by rw [clear_none]; exact ⟨HS.out, Keeps.refl _ _⟩⟩
  case round =>
    obtain ⟨j, hj1, hj2, rfl, hO⟩ := hrel
    by_cases hlt : j < e
    · obtain ⟨⟨A2, hM⟩, hKk⟩ := hO
      have HKK := Lib.hid hKk
      obtain ⟨u, hu⟩ : ∃ u, u = j / 8 := ⟨_, rfl⟩
      obtain ⟨f, hf⟩ : ∃ f, f = j % 8 := ⟨_, rfl⟩
      obtain ⟨t, ht⟩ : ∃ t, t = min 8 (f + e - j) := ⟨_, rfl⟩
      obtain ⟨hcr, hft, ht8, hje⟩ := clear_round (F := st.now) hj1 hlt hu hf ht
      obtain ⟨F, hF⟩ : ∃ F, F = clearF st.now a j := ⟨_, rfl⟩
      rw [← hF] at hcr hM
      have HCR := Lib.hid hcr
      have HX := Lib.hid hM
      clear hcr hM hKk hF
      have hu5 : u < 512 := by omega
      have HU5 := Lib.hid hu5
      have hq1 : (j : Int).tdiv 8 = (u : Int) := by rw [Int.tdiv_eq_ediv_of_nonneg (by omega)]; omega
      have hr1 : (j : Int).tmod 8 = (f : Int) := by rw [Int.tmod_eq_emod_of_nonneg (by omega)]; omega
      obtain ⟨x1, hx1⟩ : ∃ x : Nat, (f : Int) + (e : Int) = x := ⟨f + e, by push_cast; rfl⟩
      obtain ⟨x2, hx2⟩ : ∃ x : Nat, (x1 : Int) - (j : Int) = x := ⟨x1 - j, by omega⟩
      have hmn : min (8 : Int) (x2 : Int) = (t : Int) := by omega
      have hw1 : IntKind.i64.wrap (x1 : Int) = x1 := IntWalk.i64_in _ (by omega)
      have hw2 : IntKind.i64.wrap (x2 : Int) = x2 := IntWalk.i64_in _ (by omega)
      have hw3 : IntKind.i64.wrap (u : Int) = u := IntWalk.i64_in _ (by omega)
      have hw4 : IntKind.i64.wrap (f : Int) = f := IntWalk.i64_in _ (by omega)
      have i0 : (j : Int) < e := by omega
      have i1 : (0 : Int) ≤ u := by omega
      have i2 : (u : Int) < 512 := by omega
      have HFT : Hid (f ≤ t ∧ t ≤ 8) := Lib.hid ⟨by omega, ht8⟩
      have hmk := (F u).2.m
      have HBA := Lib.hid (bits_andNot hmk HFT.out.1 HFT.out.2)
      have HPT := Lib.hid (pow_bd ht8)
      have HPF := Lib.hid (pow_bd (t := f) (by omega))
      have HSUB : Hid (IntKind.i64.wrap (((2 ^ t : Nat) : Int) - ((2 ^ f : Nat) : Int)) = bitsV f t) := Lib.hid (by
        have h1 := HPT.out
        have h2 := HPF.out
        have h3 : 2 ^ f ≤ 2 ^ t := Nat.pow_le_pow_right (by omega) HFT.out.1
        rw [IntWalk.i64_in _ (by omega)]
        unfold bitsV
        omega)
      have HSH1 := Lib.hid (run_shl1 t ht8)
      have HSH2 := Lib.hid (run_shl1 f (by omega))
      obtain ⟨bv, hbv⟩ : ∃ bv, bv = bitsV f t := ⟨_, rfl⟩
      obtain ⟨mk, hmk1⟩ : ∃ mk, mk = (F u).1.m := ⟨_, rfl⟩
      obtain ⟨m2, hm2⟩ : ∃ m2, m2 = clrV mk bv := ⟨_, rfl⟩
      rw [← hbv, ← hmk1, ← hm2] at HBA
      rw [← hbv] at HSUB
      have HSET : Hid (slcC (clr1 (F u) f t HFT.out.1 HFT.out.2) = (slcC (F u)).set 33 (.int .i64 m2)) := Lib.hid (by rw [clr1_set, ← hbv, ← hmk1, ← hm2])
      have HCY : Hid (m2 ≠ 0 → clrS (F u) f t = clr1 (F u) f t HFT.out.1 HFT.out.2) := Lib.hid fun h => clrS_yes _ _ (by rw [← hbv, ← hmk1, ← hm2]; exact h)
      have HCN : Hid (m2 = 0 → clrS (F u) f t = sl0) := Lib.hid fun h => clrS_no (by rw [← hbv, ← hmk1, ← hm2]; exact h)
      obtain ⟨S1, hS1⟩ : ∃ S1, S1 = clr1 (F u) f t HFT.out.1 HFT.out.2 := ⟨_, rfl⟩
      rw [← hS1] at HSET HCY
      have HM1 : Hid (S1.1.m = m2) := Lib.hid (by rw [hS1, hm2, hbv, hmk1]; rfl)
      have HD : Hid (Mx n0 wr.drew p mb { st with now := F } A2) := Lib.hid (HX.out.go (below_drewN (Below.refl _ _) 1))
      have HMK := Lib.hid hmk1
      clear hu hf ht hbv hmk1 hm2 hS1 hmk HX
      go_upto_region 11 with fail
      clear hx1 hx2 hmn hw1 hw2 hq1 hr1 hw3 hw4
      refine wp_region_held_drew (S := fun _ : World => True) follows trivial (fun hHeld => ?_)
      obtain ⟨wq, hwq⟩ : ∃ z, z = wr.drew := ⟨_, rfl⟩
      rw [← hwq] at HD ⊢
      have HKQ : Hid (Keeps (fun k => k = p ∨ k = mb) w wq) := Lib.hid (by rw [hwq]; exact HKK.out.trans (Keeps.drew _ _) fun _ _ e => e)
      clear hwq HKK
      have cm : wq.cell? ⟨p, 1 + u * 34 + 33, none⟩ = some (.int .i64 mk) := by rw [HMK.out]; exact HD.out.mask_cell hu5
      have fz : wq.frozen? ⟨p, 1 + u * 34 + 33, none⟩ = false := frozen_of_row wq p _ _ _ HD.out.blk
      refine wpAnyH_take (i := 0) (v := ?_) (by simp only [List.getElem?_toArray, List.getElem?_cons_zero]; rfl) (by kernel_rfl) (by kernel_rfl) (by kernel_rfl) (by intro _ _ _ h; exact h) (Or.inl ⟨by rfl, ?_⟩) hHeld ?_
      rotate_left
      · (intro w hSw; (try dsimp only at hSw); go_simp; try with_reducible rfl)
      try simp only [Act.put, List.setIfInBounds_toArray, List.set_cons_zero, List.set_cons_succ]
      refine wpAnyH_take (i := 1) (v := ?_) (by simp only [List.getElem?_toArray, List.getElem?_cons_zero, List.getElem?_cons_succ]; rfl) (by kernel_rfl) (by kernel_rfl) (by kernel_rfl) (by intro _ _ _ h; exact h) (Or.inl ⟨by rfl, ?_⟩) hHeld ?_
      rotate_left
      · (intro w hSw; (try dsimp only at hSw); go_simp; try with_reducible rfl)
      try simp only [Act.put, List.setIfInBounds_toArray, List.set_cons_zero, List.set_cons_succ]
      refine wpAnyH_take (i := 2) (v := ?_) (by simp only [List.getElem?_toArray, List.getElem?_cons_zero, List.getElem?_cons_succ]; rfl) (by kernel_rfl) (by kernel_rfl) (by kernel_rfl) (by intro _ _ _ h; exact h) (Or.inl ⟨by rfl, ?_⟩) hHeld ?_
      rotate_left
      · (intro w hSw; (try dsimp only at hSw); go_simp; try with_reducible rfl)
      try simp only [Act.put, List.setIfInBounds_toArray, List.set_cons_zero, List.set_cons_succ]
      refine wpAnyH_take (i := 4) (v := ?_) (by simp only [List.getElem?_toArray, List.getElem?_cons_zero, List.getElem?_cons_succ]; rfl) (by kernel_rfl) (by kernel_rfl) (by kernel_rfl) (by intro _ _ _ h; exact h) (Or.inl ⟨by rfl, ?_⟩) hHeld ?_
      rotate_left
      · (intro w hSw; (try dsimp only at hSw); go_simp; try with_reducible rfl)
      try simp only [Act.put, List.setIfInBounds_toArray, List.set_cons_zero, List.set_cons_succ]
      refine wpAnyH_take (i := 5) (v := _) (by simp only [List.getElem?_toArray, List.getElem?_cons_zero, List.getElem?_cons_succ]; rfl) (by kernel_rfl) (by kernel_rfl) (by kernel_rfl) (by intro _ _ _ h; exact h) (yields_bin (by rfl) .shl 3 3 (.const (.int .i64 1)) (.tmp 64) rfl ⟨by simp, by simp⟩ (.int .i64 1) (.int .i64 t) rfl rfl (.int .i64 ((2 ^ t : Nat) : Int)) (fun w _ => HSH1.out w)) hHeld ?_
      try simp only [Act.put, List.setIfInBounds_toArray, List.set_cons_zero, List.set_cons_succ]
      refine wpAnyH_take (i := 6) (v := ?_) (by simp only [List.getElem?_toArray, List.getElem?_cons_zero, List.getElem?_cons_succ]; rfl) (by kernel_rfl) (by kernel_rfl) (by kernel_rfl) (by intro _ _ _ h; exact h) (Or.inl ⟨by rfl, ?_⟩) hHeld ?_
      rotate_left
      · (intro w hSw; (try dsimp only at hSw); go_simp; try with_reducible rfl)
      try simp only [Act.put, List.setIfInBounds_toArray, List.set_cons_zero, List.set_cons_succ]
      refine wpAnyH_take (i := 7) (v := _) (by simp only [List.getElem?_toArray, List.getElem?_cons_zero, List.getElem?_cons_succ]; rfl) (by kernel_rfl) (by kernel_rfl) (by kernel_rfl) (by intro _ _ _ h; exact h) (yields_bin (by rfl) .shl 3 3 (.const (.int .i64 1)) (.tmp 66) rfl ⟨by simp, by simp⟩ (.int .i64 1) (.int .i64 f) rfl rfl (.int .i64 ((2 ^ f : Nat) : Int)) (fun w _ => HSH2.out w)) hHeld ?_
      try simp only [Act.put, List.setIfInBounds_toArray, List.set_cons_zero, List.set_cons_succ]
      refine wpAnyH_take (i := 8) (v := _) (by simp only [List.getElem?_toArray, List.getElem?_cons_zero, List.getElem?_cons_succ]; rfl) (by kernel_rfl) (by kernel_rfl) (by kernel_rfl) (by intro _ _ _ h; exact h) (yields_bin (by rfl) .sub 3 3 (.tmp 65) (.tmp 67) rfl ⟨by simp, by simp⟩ (.int .i64 ((2 ^ t : Nat) : Int)) (.int .i64 ((2 ^ f : Nat) : Int)) rfl rfl (.int .i64 bv) (fun w _ => by rw [run_sub1, HSUB.out])) hHeld ?_
      try simp only [Act.put, List.setIfInBounds_toArray, List.set_cons_zero, List.set_cons_succ]
      refine wpAnyH_ready (rs := [3]) (by kernel_rfl) (by simp) ?_
      refine AllReadyH.cons (by simp only [List.getElem?_toArray, List.getElem?_cons_zero, List.getElem?_cons_succ]; rfl) (fun K hK => ?_) AllReadyH.nil
      rw [if_pos (by rfl)]
      go_simp
      refine hK.out _ _ trivial (fun hHeld => ?_)
      clear hK K
      try simp only [Act.put, List.setIfInBounds_toArray, List.set_cons_zero, List.set_cons_succ]
      refine wpAnyH_take (i := 9) (v := _) (by simp only [List.getElem?_toArray, List.getElem?_cons_zero, List.getElem?_cons_succ]; rfl) (by kernel_rfl) (by kernel_rfl) (by kernel_rfl) (by intro _ _ _ h; exact h) (yields_bin (by rfl) .andNot 3 3 (.tmp 63) (.tmp 68) rfl ⟨by simp, by simp⟩ (.int .i64 mk) (.int .i64 bv) rfl rfl (.int .i64 m2) (fun w _ => by rw [run_andNot1, HBA.out])) hHeld ?_
      try simp only [Act.put, List.setIfInBounds_toArray, List.set_cons_zero, List.set_cons_succ]
      refine wpAnyH_take (i := 10) (v := ?_) (by simp only [List.getElem?_toArray, List.getElem?_cons_zero, List.getElem?_cons_succ]; rfl) (by kernel_rfl) (by kernel_rfl) (by kernel_rfl) (by intro _ _ _ h; exact h) (Or.inl ⟨by rfl, ?_⟩) hHeld ?_
      rotate_left
      · (intro w hSw; (try dsimp only at hSw); go_simp; try with_reducible rfl)
      try simp only [Act.put, List.setIfInBounds_toArray, List.set_cons_zero, List.set_cons_succ]
      refine wpAnyH_take (i := 11) (v := ?_) (by simp only [List.getElem?_toArray, List.getElem?_cons_zero, List.getElem?_cons_succ]; rfl) (by kernel_rfl) (by kernel_rfl) (by kernel_rfl) (by intro _ _ _ h; exact h) (Or.inl ⟨by rfl, ?_⟩) hHeld ?_
      rotate_left
      · (intro w hSw; (try dsimp only at hSw); go_simp; try with_reducible rfl)
      try simp only [Act.put, List.setIfInBounds_toArray, List.set_cons_zero, List.set_cons_succ]
      refine wpAnyH_ready (rs := [12]) (by kernel_rfl) (by simp) ?_
      refine AllReadyH.cons (by simp only [List.getElem?_toArray, List.getElem?_cons_zero, List.getElem?_cons_succ]; rfl) (fun K hK => ?_) AllReadyH.nil
      rw [if_pos (by rfl)]
      go_simp
      refine hK.out _ _ trivial (fun hHeld => ?_)
      clear hK K
      try simp only [Act.put, List.setIfInBounds_toArray, List.set_cons_zero, List.set_cons_succ]
      refine wpAnyH_done (by kernel_rfl) ?_ _
      clear hHeld
      obtain ⟨w4, hw4⟩ : ∃ z, z = wq.setCell ⟨p, 1 + u * 34 + 33, none⟩ (.int .i64 m2) := ⟨_, rfl⟩
      have K4 : Hid (Keeps (fun k => k = p) wq w4) := Lib.hid (by rw [hw4]; exact Keeps.setCell (fun k => k = p) wq ⟨p, 1 + u * 34 + 33, none⟩ _ rfl)
      have M4 : Hid (Mx n0 w4 p mb { st with now := upd F u S1 } A2) := Lib.hid (HD.out.turn K4.out (fun _ e => e) (by
        rw [hw4, heap_setCell_same wq p _ _ _ _ HD.out.blk, ← mxL_cell st.n F _ _ S1 hu5 (by omega) HSET.out]
        simp))
      have O4 : Hid (Keeps (fun k => k = p ∨ k = mb) w w4) := Lib.hid (HKQ.out.trans K4.out fun _ _ e => .inl e)
      rw [← hw4]
      clear hw4 cm fz K4 HD HKQ
      have cm : w4.cell? ⟨p, 1 + u * 34 + 33, none⟩ = some (.int .i64 m2) := by
        have := M4.out.mask_cell hu5
        have h9 : (upd F u S1) u = S1 := if_pos rfl
        simp only [h9, HM1.out] at this
        exact this
      obtain ⟨dd, hdd⟩ : ∃ dd : Nat, (t : Int) - (f : Int) = dd := ⟨t - f, by omega⟩
      obtain ⟨j2, hj3⟩ : ∃ j2 : Nat, (j : Int) + (dd : Int) = j2 := ⟨j + dd, by push_cast; rfl⟩
      have hw5 : IntKind.i64.wrap (dd : Int) = dd := IntWalk.i64_in _ (by omega)
      have hw6 : IntKind.i64.wrap (j2 : Int) = j2 := IntWalk.i64_in _ (by omega)
      have HJ : Hid (j + (t - f) = j2 ∧ a ≤ j2 ∧ j2 ≤ e ∧ j < j2) := Lib.hid (by omega)
      rw [HJ.out.1] at HCR
      by_cases h0 : m2 = 0
      · have HC := HCN.out h0
        rw [HC] at HCR
        subst h0
        clear HC
        go_wp2_with (first | (refine wpList_buildG rfl 33 [] rfl [] rfl _ (buildS0 _) ?_) | (refine wpList_store_segK rfl 33 (.tmp 79) (.tmp 78) rfl p (1 + u * 34) rfl zS rfl (mxL st.n (upd F u S1) (.map (some mb))) 53 M4.out.blk sizeZ (by rw [zS_len, mxL_len]; omega) HZO.out rfl ?_; intro w5 h5 k5 s5; have O5 := Lib.hid (O4.out.trans k5 fun _ _ e => .inl e); have M5 : Hid (Mx n0 w5 p mb { st with now := upd F u sl0 } A2) := Lib.hid (M4.out.turn k5 (fun _ e => e) (by rw [h5, show zS = slcC sl0 from rfl, mxL_set _ _ _ _ HU5.out, upd_upd])); clear h5 k5 s5))
        exact ⟨⟨j2, HJ.out.2.1, HJ.out.2.2.1, rfl, by rw [HCR.out]; exact ⟨⟨A2, M5.out⟩, O5.out⟩⟩, by have := HJ.out.2.2; simp [Go.RowKit.intOf]; omega⟩
      · have HC := HCY.out h0
        rw [HC] at HCR
        have hb0 : (m2 == 0) = false := by simpa using h0
        clear HC
        go_wp2_with fail
        exact ⟨⟨j2, HJ.out.2.1, HJ.out.2.2.1, rfl, by rw [HCR.out]; exact ⟨⟨A2, M4.out⟩, O4.out⟩⟩, by have := HJ.out.2.2; simp [Go.RowKit.intOf]; omega⟩
    · obtain rfl : j = e := by omega
      have HO := Lib.hid hO
      clear hO
      go_wp2_with fail
      go_ret
      exact ⟨ret_int HE.out.1.symm, by rw [HE.out.2, HAE.out.1, HAE.out.2]; exact HO.out⟩
end Go.Proofs.YtodhaaaodmcplaaGreat
