/- The law MapsClear (layer 23): it returns true at every input. Printed by genNq.py. -/
import Derived.Test.YtodhaaaodmcplaaNs
import Derived.Test.YtodhaaaodmcplaaMd
set_option linter.all false
namespace Go.Proofs.Ytodhaaaodmcplaa
open Go.RowKit Go.Maps Go.WideMaps
theorem i64_bd {x : Int} (h : (Lit.int .i64 x).wf = true) : -9223372036854775808 ≤ x ∧ x ≤ 9223372036854775807 := by
  have hmin : IntKind.i64.min = -9223372036854775808 := rfl
  have hmax : IntKind.i64.max = 9223372036854775807 := rfl
  simp only [Lit.wf, Bool.and_eq_true, decide_eq_true_eq, hmin, hmax] at h
  omega
/-- Two maps side by side, made since W. -/
structure Tw (W w : World) (x mx y my : Nat) (sx sy : MS) : Prop where
  a : Ms W.heap.size w x mx sx
  b : Ms W.heap.size w y my sy
  ne1 : x ≠ y
  ne2 : mx ≠ my
  old : Below W.heap.size W w
theorem Tw.go {W w w2 : World} {x mx y my : Nat} {sx sy : MS} (h : Tw W w x mx y my sx sy) (hb : Below w.heap.size w w2) : Tw W w2 x mx y my sx sy :=
  ⟨h.a.go hb, h.b.go hb, h.ne1, h.ne2, h.old.trans (hb.mono h.old.size)⟩
theorem Tw.left {W w w2 : World} {x mx y my : Nat} {sx sy s : MS} (h : Tw W w x mx y my sx sy) (hO : OutM W.heap.size w w2 x mx s) : Tw W w2 x mx y my s sy :=
  ⟨hO.1, h.b.other h.a hO.2 h.ne1 h.ne2, h.ne1, h.ne2, h.old.trans (hO.2.below (fun k e => by rcases e with rfl | rfl; exact h.a.lo.1; exact h.a.lo.2) h.old.size)⟩
theorem Tw.right {W w w2 : World} {x mx y my : Nat} {sx sy s : MS} (h : Tw W w x mx y my sx sy) (hO : OutM W.heap.size w w2 y my s) : Tw W w2 x mx y my sx s :=
  ⟨h.a.other h.b hO.2 h.ne1.symm h.ne2.symm, hO.1, h.ne1, h.ne2, h.old.trans (hO.2.below (fun k e => by rcases e with rfl | rfl; exact h.b.lo.1; exact h.b.lo.2) h.old.size)⟩
/-- A block of their own kind is none of theirs. -/
theorem Ms.slice {n0 : Nat} {w w2 : World} {p mb q : Nat} {st : MS} {cs : Array Value} (h : Ms n0 w p mb st) (hq : w.heap[q]? = some (.cells cs 25 (0, 0))) (hk : Keeps (fun k => k = q) w w2) : Ms n0 w2 p mb st := by
  obtain ⟨A, h⟩ := h
  refine ⟨A, h.keeps hk fun k e => ?_⟩
  subst e
  exact ⟨fun e => cells_ne hq h.blk (by decide) e, gm_ne hq h.map, fun cs z e => cells_ne hq e (by decide) rfl⟩
theorem wpList_binG {P : Program} {ops : Array Oper} {rest : List Oper} {op : Oper} {a : Act} {w : World} {Q : Exit → Act → World → Prop} (hg : Region.wanted op (yielded ops a.tmps) = true) (b : BinOp) (t t2 : TypeId) (x y : Operand) (ho : op.op = .binOp b t x y t2) (hb : b ≠ .eql ∧ b ≠ .neq) (u v : Value) (hx : a.eval x = u) (hy : a.eval y = v) (r : Value)
    (hr : (binOp b t u v).run P w = .ok r w) (h : wpList P ops Q rest (a.put op.dst r) w) : wpList P ops Q (op :: rest) a w :=
  BigFrame.wpList_want hg fun K hK => by
    subst hx hy
    have hg : eqGuard b t x y (a.eval x) (a.eval y) = pure () := by
      cases b <;> first | exact absurd rfl hb.1 | exact absurd rfl hb.2 | rfl
    unfold Oper.wp execOp
    simp only [ho, Sem.run_bind, hg, Sem.run_pure, hr, Result.andThen_ok]
    exact hK _ _ h
theorem run_shlu (t : Nat) (h : t ≤ 8) (w : World) : (binOp .shl 3 (.int .i64 1) (.int .u64 (t : Int))).run Try.prog w = .ok (.int .i64 ((2 ^ t : Nat) : Int)) w := by
  rcases (by omega : t = 0 ∨ t = 1 ∨ t = 2 ∨ t = 3 ∨ t = 4 ∨ t = 5 ∨ t = 6 ∨ t = 7 ∨ t = 8) with rfl | rfl | rfl | rfl | rfl | rfl | rfl | rfl | rfl
  all_goals kernel_rfl
theorem bits1 (t : Nat) (h : t < 8) : bitsV t (t + 1) = ((2 ^ t : Nat) : Int) := by
  unfold bitsV
  rw [Nat.pow_succ]
  omega
theorem slC_set {k : List Int} (h : k.length = 32) (o m m2 : Int) : (slC k o m).set 33 (.int .i64 m2) = slC k o m2 := by
  unfold slC
  rw [List.set_append, if_neg (by rw [u8l_len, h]; omega), u8l_len, h]
  rfl
theorem run_shlb (t : Nat) (h : t < 8) (w : World) : (binOp .shl 3 (.int .i64 1) (.int .u64 (t : Int))).run Try.prog w = .ok (.int .i64 (bitsV t (t + 1))) w := by
  rw [bits1 t h]
  exact run_shlu t (by omega) w
theorem clear_two {F : Mp1} {a c k : Nat} (hc : c ≤ k) : clearF (clearF F (a + c) (a + k)) a (a + c) = clearF F a (a + k) := clear_comp2 (by omega) (by omega)
theorem sameItems (L : List Itm) (hL : ∀ x ∈ L, OkIt x) (hn : L.length ≤ 100000) (A A' : Option Addr) (c c' B B' : Nat) (w : World) (ha : SArr w B A L.length 73 fun i => cellsIt (elI L i)) (ha' : SArr w B' A' L.length 73 fun i => cellsIt (elI L i)) :
    Calls Try.prog 18 #[.slice A L.length c, .slice A' L.length c'] w fun e w' => e = .returned (.bool true) ∧ Below w.heap.size w w' :=
  (sameIt (elI L) A A' L.length c c' B B' w (by omega) ha ha').mono fun e w' ⟨h1, m, h2⟩ => ⟨h1, h2 ▸ below_drewN (Below.refl _ _) m⟩
set_option maxRecDepth 100000 in
set_option maxHeartbeats 8000000 in
theorem clear5 (L : Nat → Dox) (A : Option Addr) (n c : Nat) (at0 n1 cut0 : Int) (W : World) (hnc : n ≤ c) (hA : A = none → n = 0 ∧ c = 0) (hL : ∀ i, i < n → KeyOk 32 (L i).s.k ∧ (Lit.int .i64 (L i).op).wf = true ∧ (Lit.int .i64 (L i).a).wf = true ∧ (Lit.int .i64 (L i).b).wf = true ∧ (Lit.int .i64 (L i).s.o).wf = true ∧ (Lit.int .i64 (L i).s.m).wf = true) (ha : SArr W W.heap.size A n 37 fun i => (L i).cells)
    (_w1 : (Lit.int .i64 at0).wf = true) (_w2 : (Lit.int .i64 n1).wf = true) (_w3 : (Lit.int .i64 cut0).wf = true) :
    Calls Try.prog 5 #[.slice A n c, .int .i64 at0, .int .i64 n1, .int .i64 cut0] W fun e w' => e = .returned (.bool true) ∧ Below W.heap.size W w' := by
  have HL : Hid (∀ i, i < n → OkDo (L i)) := Lib.hid fun i hi => ⟨(hL i hi).1, (hL i hi).2.1, (hL i hi).2.2.1, (hL i hi).2.2.2.1⟩
  have HA := Lib.hid ha
  have HZO := Lib.hid (oneC sl0)
  clear hL ha hA hnc _w1 _w2 _w3
  go_enter Try.func5, Try.ntmps5
  go_wp2_with fail
  refine (awake_p W).mono ?_
  rintro e w1 ⟨rfl, hb1⟩
  have B1 := Lib.hid hb1
  clear hb1
  go_wp2_with fail
  refine (new_yes 9 w1 (by omega)).mono ?_
  rintro e w2 ⟨x, mx, rfl, hm, hb⟩
  have M2 := Lib.hid hm
  have B2 := Lib.hid hb
  clear hm hb
  go_wp2_with fail
  refine (new_yes 9 w2 (by omega)).mono ?_
  rintro e w3 ⟨y, my, rfl, hm, hb⟩
  have HT : Hid (Tw W w3 x mx y my (st0 9) (st0 9)) := Lib.hid (by
    have h1 := hm.lo
    have h2 := M2.out.lt
    exact ⟨(M2.out.go hb).base B1.out.size, hm.base (Nat.le_trans B1.out.size B2.out.size), by omega, by omega, (B1.out.trans (B2.out.mono B1.out.size)).trans (hb.mono (Nat.le_trans B1.out.size B2.out.size))⟩)
  clear hm hb M2 B1 B2
  go_upto_block 0 with fail
  go_cut [11] from 22 to 43 (fun s11 wx => ∃ s : MS, s.n = 9 ∧ Tw W wx x mx y my s s)
  case first =>
    go_wp2_with fail
    go_loopw [11] (fun i wr => ∃ (j : Nat) (s : MS), j ≤ n ∧ j ≤ 60 ∧ i = .int .i64 j ∧ s.n = 9 ∧ Tw W wr x mx y my s s) (fun i _ => 60 - (Go.RowKit.intOf i).toNat)
    case atStart => exact ⟨0, st0 9, Nat.zero_le _, by omega, rfl, rfl, HT.out⟩
    case round =>
      obtain ⟨j, s, hj, hj2, rfl, hs9, hT⟩ := hrel
      clear HT
      have HT := Lib.hid hT
      have HS9 := Lib.hid hs9
      clear hT hs9
      by_cases hlt : j < n
      · by_cases hlt2 : j < 60
        · obtain ⟨g, off, rfl, hg, hrow⟩ := HA.out (by omega)
          have HR : Hid (∀ V, Below W.heap.size W V → V.rangeAt g (off + j * 37) (L j).cells) := Lib.hid fun V h i v hi => (World.cell?_of_block (h.block g hg)).trans (hrow j hlt i v hi)
          have HOK := Lib.hid (HL.out j hlt)
          obtain ⟨d, hd⟩ : ∃ d, d = L j := ⟨_, rfl⟩
          rw [← hd] at HR HOK
          have HSZ := Lib.hid (sizeDo HOK.out.k)
          have RA := Lib.hid (HR.out wr HT.out.old)
          have i1 : (0 : Int) ≤ j := by omega
          have i2 : (j : Int) < n := by omega
          have i3 : (j : Int) < 60 := by omega
          clear hg hrow hd
          go_wp2_with (refine wpList_load_midG rfl 27 (.tmp 35) rfl g (off + j * 37) rfl d.cells _ RA.out Try.underlying27 rfl HSZ.out ?_)
          refine (do_p HT.out.a d HOK.out).mono ?_
          rintro e w4 ⟨rfl, hO⟩
          have HT := Lib.hid (HT.out.left hO)
          have RA := Lib.hid (HR.out w4 HT.out.old)
          clear hO
          go_wp2_with (refine wpList_load_midG rfl 27 (.tmp 41) rfl g (off + j * 37) rfl d.cells _ RA.out Try.underlying27 rfl HSZ.out ?_)
          refine (do_p HT.out.b d HOK.out).mono ?_
          rintro e w5 ⟨rfl, hO⟩
          have HT := Lib.hid (HT.out.right hO)
          clear hO
          go_wp2_with fail
          exact ⟨⟨j + 1, doD s d, by omega, by omega, by push_cast; rfl, by rw [n_doD]; exact HS9.out, HT.out⟩, by simp [Go.RowKit.intOf]; omega⟩
        · obtain rfl : j = 60 := by omega
          have i2 : (60 : Int) < n := by omega
          have d1 : decide (((60 : Nat) : Int) < n) = true := by simpa using i2
          have d2 : decide ((60 : Int) < n) = true := by simpa using i2
          have d3 : decide (60 < n) = true := by simpa using hlt
          go_wp2_with fail
          go_meet
          exact ⟨s, HS9.out, HT.out⟩
      · obtain rfl : j = n := by omega
        go_wp2_with fail
        go_meet
        exact ⟨s, HS9.out, HT.out⟩
  case rest =>
    obtain ⟨s, hs9, hT⟩ := hcut
    clear HT
    have HT := Lib.hid hT
    have HS9 := Lib.hid hs9
    clear hT hs9 HA HL
    obtain ⟨a, ha⟩ : ∃ a : Nat, at0 % 73 = a := ⟨(at0 % 73).toNat, by have := Int.emod_nonneg at0 (show (73 : Int) ≠ 0 by omega); omega⟩
    have ha73 : a < 73 := by have := Int.emod_lt_of_pos at0 (show (0 : Int) < 73 by omega); omega
    obtain ⟨k, hk⟩ : ∃ k : Nat, n1 % ((73 - a : Nat) : Int) = k := ⟨(n1 % ((73 - a : Nat) : Int)).toNat, by have := Int.emod_nonneg n1 (show ((73 - a : Nat) : Int) ≠ 0 by omega); omega⟩
    have hk73 : k < 73 - a := by have := Int.emod_lt_of_pos n1 (show (0 : Int) < ((73 - a : Nat) : Int) by omega); omega
    obtain ⟨ct, hct⟩ : ∃ ct : Nat, cut0 % ((k + 1 : Nat) : Int) = ct := ⟨(cut0 % ((k + 1 : Nat) : Int)).toNat, by have := Int.emod_nonneg cut0 (show ((k + 1 : Nat) : Int) ≠ 0 by omega); omega⟩
    have hck : ct < k + 1 := by have := Int.emod_lt_of_pos cut0 (show (0 : Int) < ((k + 1 : Nat) : Int) by omega); omega
    have P1 : Hid (∀ w, Calls Try.prog 16 #[.int .i64 at0, .int .i64 73] w fun e w' => e = .returned (.int .i64 a) ∧ w = w') := Lib.hid fun w => by have h := pick9 at0 73 w (by omega) (by omega); rwa [ha] at h
    have P2 : Hid (∀ w, Calls Try.prog 16 #[.int .i64 n1, .int .i64 ((73 - a : Nat) : Int)] w fun e w' => e = .returned (.int .i64 k) ∧ w = w') := Lib.hid fun w => by have h := pick9 n1 ((73 - a : Nat) : Int) w (by omega) (by omega); rwa [hk] at h
    have P3 : Hid (∀ w, Calls Try.prog 16 #[.int .i64 cut0, .int .i64 ((k + 1 : Nat) : Int)] w fun e w' => e = .returned (.int .i64 ct) ∧ w = w') := Lib.hid fun w => by have h := pick9 cut0 ((k + 1 : Nat) : Int) w (by omega) (by omega); rwa [hct] at h
    obtain ⟨m1, hm1⟩ : ∃ m : Nat, m = 73 - a := ⟨_, rfl⟩
    obtain ⟨m2, hm2⟩ : ∃ m : Nat, m = k + 1 := ⟨_, rfl⟩
    rw [← hm1] at P2
    rw [← hm2] at P3
    have e1 : (73 : Int) - (a : Int) = (m1 : Int) := by omega
    have e2 : (k : Int) + 1 = (m2 : Int) := by omega
    have f1 : IntKind.i64.wrap (m1 : Int) = m1 := IntWalk.i64_in _ (by omega)
    have f2 : IntKind.i64.wrap (m2 : Int) = m2 := IntWalk.i64_in _ (by omega)
    obtain ⟨ac, hac⟩ : ∃ ac : Nat, ac = a + ct := ⟨_, rfl⟩
    obtain ⟨kc, hkc⟩ : ∃ kc : Nat, kc = k - ct := ⟨_, rfl⟩
    have e3 : (a : Int) + (ct : Int) = (ac : Int) := by omega
    have e4 : (k : Int) - (ct : Int) = (kc : Int) := by omega
    have f3 : IntKind.i64.wrap (ac : Int) = ac := IntWalk.i64_in _ (by omega)
    have f4 : IntKind.i64.wrap (kc : Int) = kc := IntWalk.i64_in _ (by omega)
    obtain ⟨F, hF⟩ : ∃ F, F = s.now := ⟨_, rfl⟩
    obtain ⟨G, hG⟩ : ∃ G, G = clearF F ac (a + k) := ⟨_, rfl⟩
    have HG1 : Hid (clearF G a ac = clearF F a (a + k)) := Lib.hid (by rw [hG, hac]; exact clear_two (by omega))
    obtain ⟨sx, hsx⟩ : ∃ sx : MS, sx = { s with now := clearF F a (a + k) } := ⟨_, rfl⟩
    obtain ⟨sy, hsy⟩ : ∃ sy : MS, sy = { s with now := G } := ⟨_, rfl⟩
    have K1 : Hid (clearE s a k = 0 ∧ clearM s a k = sx) := Lib.hid (by
      have h := clearB_yes (st := s) (p := a) (n := k) (by rw [HS9.out]; omega)
      refine ⟨h.1, h.2.trans ?_⟩
      rw [hsx, hF]
      congr 2)
    have K2 : Hid (clearE s ac kc = 0 ∧ clearM s ac kc = sy) := Lib.hid (by
      have h := clearB_yes (st := s) (p := ac) (n := kc) (by rw [HS9.out]; omega)
      refine ⟨h.1, h.2.trans ?_⟩
      rw [hsy, hG, hF]
      congr 2
      omega)
    have K3 : Hid (clearE sy a ct = 0 ∧ clearM sy a ct = sx) := Lib.hid (by
      have h := clearB_yes (st := sy) (p := a) (n := ct) (by rw [hsy]; show _ ∧ _ ∧ (a : Int) ≤ 8 * (s.n : Int) ∧ (ct : Int) ≤ 8 * (s.n : Int) - a; rw [HS9.out]; omega)
      refine ⟨h.1, h.2.trans ?_⟩
      rw [hsx, ← HG1.out, hsy, hac]
      congr 2)
    have HGX : Hid (∀ u : Nat, u < 9 → getM sy 0 u = if (G u).1.m ≠ 0 then some (G u) else none) := Lib.hid fun u hu => by
      by_cases h0 : (G u).1.m ≠ 0
      · rw [if_pos h0]; rw [hsy]; exact getM_now (st := { s with now := G }) (un := u) ⟨by omega, by show (u : Int) < (s.n : Int); rw [HS9.out]; omega, h0⟩
      · rw [if_neg h0]; rw [hsy]; exact getM_no (st := { s with now := G }) (un := u) fun h => h0 h.2.2
    have HFX : Hid (∀ u : Nat, u < 9 → getM sx 0 u = if gK (G u).1.m (a - 8 * u) (ac - 8 * u) 8 ≠ 0 then some (clearF G a ac u) else none) := Lib.hid fun u hu => by
      have hmm := clear_mask G a ac u
      rw [← hmm]
      by_cases h0 : (clearF G a ac u).1.m ≠ 0
      · rw [if_pos h0, hsx, ← HG1.out]; exact getM_now (st := { s with now := clearF G a ac }) (un := u) ⟨by omega, by show (u : Int) < (s.n : Int); rw [HS9.out]; omega, h0⟩
      · rw [if_neg h0, hsx, ← HG1.out]; exact getM_no (st := { s with now := clearF G a ac }) (un := u) fun h => h0 h.2.2
    have HINV : Hid (Inv sx) := Lib.hid (by have h := inv_clear HT.out.a.inv a k; rwa [K1.out.2] at h)
    have HAC : Hid (a ≤ ac ∧ ac ≤ 72) := Lib.hid (by omega)
    clear ha hk hct hm1 hm2 hac hkc hF hG hsx hsy
    go_upto_region 9 with fail
    go_wp2_with fail
    refine (P1.out _).mono ?_
    rintro e _ ⟨rfl, rfl⟩
    go_wp2_with fail
    refine (P2.out _).mono ?_
    rintro e _ ⟨rfl, rfl⟩
    go_wp2_with fail
    refine (P3.out _).mono ?_
    rintro e _ ⟨rfl, rfl⟩
    go_wp2_with fail
    have c1 := clear_p HT.out.a a k
    rw [K1.out.1, K1.out.2] at c1
    refine c1.mono ?_
    rintro e w5 ⟨rfl, hO⟩
    have HT := Lib.hid (HT.out.left hO)
    clear hO c1
    go_wp2_with fail
    have c1 := clear_p HT.out.b ac kc
    rw [K2.out.1, K2.out.2] at c1
    refine c1.mono ?_
    rintro e w6 ⟨rfl, hO⟩
    have HT := Lib.hid (HT.out.right hO)
    clear hO c1
    clear e1 e2 e4 f1 f2 f4 P1 P2 P3 K1 K2 HS9
    go_upto_region 15 with fail
    go_loopw [12] (fun i wr => ∃ u : Nat, u ≤ 9 ∧ i = .int .i64 u ∧ Tw W wr x mx y my sx sy) (fun i _ => 9 - (Go.RowKit.intOf i).toNat)
    case atStart => exact ⟨0, by omega, rfl, HT.out⟩
    case round =>
      obtain ⟨u, hu, rfl, hT⟩ := hrel
      clear HT
      have HT := Lib.hid hT
      clear hT
      by_cases hlt : u < 9
      · have hgy := HGX.out u hlt
        have HGXu := Lib.hid (HFX.out u hlt)
        have HMM := Lib.hid (G u).2.m
        have HCS : Hid (gK (G u).1.m (a - 8 * u) (ac - 8 * u) 8 ≠ 0 → slcC (clearF G a ac u) = slC (G u).1.k (G u).1.o (gK (G u).1.m (a - 8 * u) (ac - 8 * u) 8)) := Lib.hid fun h => by
          have := clear_same G a ac u h
          unfold slcC
          rw [this]
        have HKK := Lib.hid (G u).2.key
        have HU9 := Lib.hid hlt
        go_wp2_with fail
        refine (get_p HT.out.b 0 u wf0).mono ?_
        rintro e w7 ⟨rfl, hb⟩
        have HT := Lib.hid (HT.out.go hb)
        clear hb
        obtain ⟨q, hq⟩ : ∃ q, q = w7.heap.size := ⟨_, rfl⟩
        have HQ := Lib.hid hq
        have HTS : Hid (W.heap.size ≤ w7.heap.size) := Lib.hid HT.out.old.size
        by_cases h0 : (G u).1.m = 0
        · rw [if_neg (by simpa using h0)] at hgy
          rw [getR_none hgy]
          have HX0 : Hid (getM sx 0 u = none) := Lib.hid (by have h := HGXu.out; rwa [h0, gK_none (Nat.le_refl _), if_neg (by simp)] at h)
          clear hgy h0 HGXu HMM HCS HKK hq
          go_upto_region 18 with (refine wpList_boxed rfl 25 13 rfl rfl zS (zeroVS _) (.tmp 78) rfl rfl rfl zS rfl rfl sizeZ rfl HZO.out ?_; intro w8 hb h8 s8)
          have HT := Lib.hid (HT.out.go hb)
          clear hb h8 s8
          go_upto_region 19 with fail
          go_loopw [15] (fun i wr => i = .int .i64 0 ∧ wr = w8) (fun _ _ => 0)
          case atStart => exact ⟨rfl, rfl⟩
          case round =>
            obtain ⟨rfl, rfl⟩ := hrel
            go_wp2_with fail
            refine (get_p HT.out.a 0 u wf0).mono ?_
            rw [getR_none HX0.out]
            rintro e w9 ⟨rfl, hb⟩
            have HT := Lib.hid (HT.out.go hb)
            clear hb
            go_upto_region 24 with (refine wpList_boxed rfl 25 16 rfl rfl zS (zeroVS _) (.tmp 114) rfl rfl rfl zS rfl rfl sizeZ rfl HZO.out ?_; intro w10 hb h10 s10)
            have HT := Lib.hid (HT.out.go hb)
            clear hb h10 s10
            go_wp2_with fail
            exact ⟨⟨u + 1, by omega, by push_cast; rfl, HT.out⟩, by simp [Go.RowKit.intOf]; omega⟩
        · rw [if_pos h0] at hgy
          rw [getR_some hgy]
          obtain ⟨kk, hkk⟩ : ∃ kk, kk = (G u).1.k := ⟨_, rfl⟩
          obtain ⟨oo, hoo⟩ : ∃ oo, oo = (G u).1.o := ⟨_, rfl⟩
          obtain ⟨mm, hmm⟩ : ∃ mm, mm = (G u).1.m := ⟨_, rfl⟩
          obtain ⟨lo, hlo⟩ : ∃ lo, lo = a - 8 * u := ⟨_, rfl⟩
          obtain ⟨hi, hhi⟩ : ∃ hi, hi = ac - 8 * u := ⟨_, rfl⟩
          have HLH : Hid (∀ t : Nat, t < 8 → ((a ≤ 8 * u + t ∧ 8 * u + t < ac) ↔ (lo ≤ t ∧ t < hi))) := Lib.hid fun t _ => by omega
          have ecs : slcC (G u) = slC kk oo mm := by rw [hkk, hoo, hmm]; rfl
          rw [ecs]
          rw [← hkk] at HKK
          rw [← hmm] at HMM
          rw [← hmm, ← hlo, ← hhi] at HGXu
          rw [← hmm, ← hlo, ← hhi, ← hkk, ← hoo] at HCS
          have HSZ : Hid (∀ m, (Try.prog.info? 25).map (·.size) = some (slC kk oo m).length) := Lib.hid fun m => by rw [slC_len HKK.out.len]; exact infoSl
          have HLN : Hid (∀ m, (slC kk oo m).length = 34) := Lib.hid fun m => slC_len HKK.out.len oo m
          have HLZ : Hid (∀ m, zS.length = (slC kk oo m).length) := Lib.hid fun m => by rw [HLN.out, zS_len]
          have HON : Hid (∀ m, ∀ v ∈ slC kk oo m, v.oneCell' = true) := Lib.hid fun m => slC_one kk oo m
          have H33 : Hid (∀ m, (slC kk oo m)[33]? = some (.int .i64 m)) := Lib.hid fun m => (slC_at HKK.out.len oo m).2
          clear hgy h0 hkk hoo hmm hlo hhi ecs hq
          go_upto_region 18 with (refine wpList_boxed rfl 25 13 rfl rfl zS (zeroVS _) (.tmp 78) rfl rfl rfl (slC kk oo mm) rfl rfl (HSZ.out mm) (HLZ.out mm) (HON.out mm) ?_; intro w8 hb h8 s8)
          have HT := Lib.hid (HT.out.go hb)
          rw [← HQ.out] at h8 ⊢
          have Q8 := Lib.hid h8
          clear hb h8 s8
          go_upto_region 19 with fail
          go_loopw [15] (fun i wr => ∃ t : Nat, t ≤ 8 ∧ i = .int .i64 t ∧ wr.heap[q]? = some (.cells (slC kk oo (gK mm lo hi t)).toArray 25 (0, 0)) ∧ Keeps (fun k => k = q) w8 wr) (fun i _ => 8 - (Go.RowKit.intOf i).toNat)
          case atStart => exact ⟨0, by omega, rfl, by rw [gK_zero]; exact Q8.out, Keeps.refl _ _⟩
          case round =>
            obtain ⟨t, ht, rfl, hqt, hkp⟩ := hrel
            have QT := Lib.hid hqt
            have KP := Lib.hid hkp
            clear hqt hkp
            by_cases hlt8 : t < 8
            · obtain ⟨u8, hu8⟩ : ∃ u8 : Nat, (8 : Int) * (u : Int) = u8 := ⟨8 * u, by push_cast; rfl⟩
              obtain ⟨z, hz⟩ : ∃ z : Nat, (u8 : Int) + (t : Int) = z := ⟨u8 + t, by push_cast; rfl⟩
              have g1 : IntKind.i64.wrap (u8 : Int) = u8 := IntWalk.i64_in _ (by omega)
              have g2 : IntKind.i64.wrap (z : Int) = z := IntWalk.i64_in _ (by omega)
              have hzz : z = 8 * u + t := by omega
              have hiff := HLH.out t hlt8
              rw [← hzz] at hiff
              by_cases hin : lo ≤ t ∧ t < hi
              · obtain ⟨hin1, hin2⟩ := hiff.2 hin
                have d1 : decide ((a : Int) ≤ z) = true := by simp; omega
                have d1n : decide (a ≤ z) = true := by simp; omega
                have d2 : decide ((z : Int) < ac) = true := by simp; omega
                have d2n : decide (z < ac) = true := by simp; omega
                have HGN := Lib.hid (gK_in HMM.out hin.1 hin.2 hlt8)
                have hbd := gK_bd HMM.out (lo := lo) (hi := hi) (k := t) (by omega)
                have HAN : Hid (∀ w, (binOp .andNot 3 (.int .i64 (gK mm lo hi t)) (.int .i64 (bitsV t (t + 1)))).run Try.prog w = .ok (.int .i64 (gK mm lo hi (t + 1))) w) := Lib.hid fun w => by rw [run_andNot1, bits_andNot hbd (by omega) (by omega), HGN.out]
                have HSH : Hid (∀ w, (binOp .shl 3 (.int .i64 1) (.int .u64 (t : Int))).run Try.prog w = .ok (.int .i64 (bitsV t (t + 1))) w) := Lib.hid fun w => run_shlb t hlt8 w
                obtain ⟨mt, hmt⟩ : ∃ mt, mt = gK mm lo hi t := ⟨_, rfl⟩
                obtain ⟨mt2, hmt2⟩ : ∃ mt, mt = gK mm lo hi (t + 1) := ⟨_, rfl⟩
                obtain ⟨bv, hbv⟩ : ∃ bv, bv = bitsV t (t + 1) := ⟨_, rfl⟩
                rw [← hmt, ← hmt2, ← hbv] at HAN
                rw [← hbv] at HSH
                rw [← hmt] at QT
                have HMT2 := Lib.hid hmt2
                have c33 : wr.cell? ⟨q, 33, none⟩ = some (.int .i64 mt) := by have := range_of QT.out 33 _ (H33.out mt); rwa [Nat.zero_add] at this
                have fz : wr.frozen? ⟨q, 33, none⟩ = false := frozen_of_row wr q _ _ _ QT.out
                have hwu : IntKind.u64.wrap (t : Int) = t := by rw [IntKind.wrap_u64]; omega
                clear hin hiff hin1 hin2 hbd hmt hmt2 hbv hzz HGN
                go_wp2_with (first | (refine wpList_binG rfl .shl 3 54 (.const (.int .i64 1)) (.tmp 106) rfl ⟨by simp, by simp⟩ (.int .i64 1) (.int .u64 t) rfl rfl (.int .i64 bv) (HSH.out _) ?_) | (refine wpList_binG rfl .andNot 3 3 (.tmp 104) (.tmp 107) rfl ⟨by simp, by simp⟩ (.int .i64 mt) (.int .i64 bv) rfl rfl (.int .i64 mt2) (HAN.out _) ?_))
                exact ⟨⟨t + 1, by omega, by push_cast; rfl, by rw [← HMT2.out, heap_setCell_same wr q _ _ _ _ QT.out, ← slC_set HKK.out.len oo mt mt2]; simp, KP.out.trans (Keeps.setCell (fun k => k = q) wr ⟨q, 33, none⟩ _ rfl) fun _ _ e => e⟩, by simp [Go.RowKit.intOf]; omega⟩
              · have hg := gK_out (m := mm) hin
                have HGO := Lib.hid hg
                have hni : ¬ (a ≤ z ∧ z < ac) := fun h => hin (hiff.1 h)
                by_cases h1 : a ≤ z
                · have d1 : decide ((a : Int) ≤ z) = true := by simp; omega
                  have d1n : decide (a ≤ z) = true := by simp; omega
                  have d2 : decide ((z : Int) < ac) = false := by simp; omega
                  have d2n : decide (z < ac) = false := by simp; omega
                  clear hin hiff hni hg hzz h1
                  go_wp2_with fail
                  exact ⟨⟨t + 1, by omega, by push_cast; rfl, by rw [HGO.out]; exact QT.out, KP.out⟩, by simp [Go.RowKit.intOf]; omega⟩
                · have d1 : decide ((a : Int) ≤ z) = false := by simp; omega
                  have d1n : decide (a ≤ z) = false := by simp; omega
                  clear hin hiff hni hg hzz h1
                  go_wp2_with fail
                  exact ⟨⟨t + 1, by omega, by push_cast; rfl, by rw [HGO.out]; exact QT.out, KP.out⟩, by simp [Go.RowKit.intOf]; omega⟩
            · obtain rfl : t = 8 := by omega
              have HT : Hid (Tw W wr x mx y my sx sy) := Lib.hid ⟨HT.out.a.slice Q8.out KP.out, HT.out.b.slice Q8.out KP.out, HT.out.ne1, HT.out.ne2, HT.out.old.trans (KP.out.below (fun k e => by rw [e, HQ.out]; exact HTS.out) HT.out.old.size)⟩
              obtain ⟨m8, hm8⟩ : ∃ m8, m8 = gK mm lo hi 8 := ⟨_, rfl⟩
              rw [← hm8] at QT HGXu HCS
              clear hm8 Q8 KP
              go_wp2_with fail
              refine (get_p HT.out.a 0 u wf0).mono ?_
              rintro e w9 ⟨rfl, hb⟩
              have HT := Lib.hid (HT.out.go hb)
              have QT := Lib.hid ((hb.block q (heap_lt QT.out)).trans QT.out)
              clear hb
              by_cases h0 : m8 = 0
              · have hgx := HGXu.out
                rw [if_neg (by simpa using h0)] at hgx
                rw [getR_none hgx]
                subst h0
                clear hgx
                go_upto_region 24 with (refine wpList_boxed rfl 25 16 rfl rfl zS (zeroVS _) (.tmp 114) rfl rfl rfl zS rfl rfl sizeZ rfl HZO.out ?_; intro w10 hb h10 s10)
                have HT := Lib.hid (HT.out.go hb)
                have QT := Lib.hid ((hb.block q (heap_lt QT.out)).trans QT.out)
                clear hb h10 s10
                have c33 : w10.cell? ⟨q, 33, none⟩ = some (.int .i64 0) := by have := range_of QT.out 33 _ (H33.out 0); rwa [Nat.zero_add] at this
                go_wp2_with fail
                exact ⟨⟨u + 1, by omega, by push_cast; rfl, HT.out⟩, by simp [Go.RowKit.intOf]; omega⟩
              · have hgx := HGXu.out
                rw [if_pos h0] at hgx
                rw [getR_some hgx, HCS.out h0]
                have HEQ : Hid (∀ w, EqRun Try.prog 25 (slC kk oo m8).toArray (slC kk oo m8).toArray w true) := Lib.hid fun w => by have h := eqrSl (clearF G a ac u) w; rwa [HCS.out h0] at h
                have hb0 : (m8 == 0) = false := by simpa using h0
                have hb1 : (m8 != 0) = true := by simpa using h0
                obtain ⟨q2, hq2⟩ : ∃ q, q = w9.heap.size := ⟨_, rfl⟩
                clear hgx
                go_upto_region 24 with (refine wpList_boxed rfl 25 16 rfl rfl zS (zeroVS _) (.tmp 114) rfl rfl rfl (slC kk oo m8) rfl rfl (HSZ.out m8) (HLZ.out m8) (HON.out m8) ?_; intro w10 hb h10 s10)
                have HT := Lib.hid (HT.out.go hb)
                have QT := Lib.hid ((hb.block q (heap_lt QT.out)).trans QT.out)
                rw [← hq2] at h10 ⊢
                have R10 := Lib.hid (range_of h10)
                have R8 := Lib.hid (range_of QT.out)
                clear hb h10 s10 hq2
                have c33 : w10.cell? ⟨q, 33, none⟩ = some (.int .i64 m8) := by have := R8.out 33 _ (H33.out m8); rwa [Nat.zero_add] at this
                go_wp2_with (first | (refine wpList_load_midG rfl 25 (.tmp 13) rfl q 0 rfl (slC kk oo m8) _ R8.out Try.underlying25 rfl (HSZ.out m8) ?_) | (refine wpList_load_midG rfl 25 (.tmp 16) rfl q2 0 rfl (slC kk oo m8) _ R10.out Try.underlying25 rfl (HSZ.out m8) ?_) | (refine wpList_neqG rfl 25 (.tmp 127) (.tmp 128) rfl (slC kk oo m8).toArray (slC kk oo m8).toArray rfl rfl true eqgSl (HEQ.out _) ?_))
                exact ⟨⟨u + 1, by omega, by push_cast; rfl, HT.out⟩, by simp [Go.RowKit.intOf]; omega⟩
      · obtain rfl : u = 9 := by omega
        go_wp2_with fail
        have c1 := clear_p HT.out.b a ct
        rw [K3.out.1, K3.out.2] at c1
        refine c1.mono ?_
        rintro e w7 ⟨rfl, hO⟩
        have HT := Lib.hid (HT.out.right hO)
        clear hO c1
        go_wp2_with fail
        refine (items_p HT.out.a).mono ?_
        rintro e w8 ⟨v8, rfl, ho, hb⟩
        obtain ⟨A8, c8, rfl, ha8, _, _⟩ := row_items (items_ok HINV.out) ho
        have R8 := Lib.hid ha8
        have HT := Lib.hid (HT.out.go hb)
        clear ho hb ha8
        go_wp2_with fail
        refine (items_p HT.out.b).mono ?_
        rintro e w9 ⟨v9, rfl, ho, hb⟩
        obtain ⟨A9, c9, rfl, ha9, _, _⟩ := row_items (items_ok HINV.out) ho
        have R9 := Lib.hid ha9
        have R8 := Lib.hid (R8.out.below hb (Nat.le_refl _))
        have HT := Lib.hid (HT.out.go hb)
        clear ho hb ha9
        go_wp2_with fail
        refine (sameItems (itemsM sx) (items_ok HINV.out) (by have := items_len HINV.out; omega) A8 A9 c8 c9 _ _ w9 R8.out R9.out).mono ?_
        rintro e w10 ⟨rfl, hb⟩
        have HT := Lib.hid (HT.out.go hb)
        clear hb
        go_wp2_with fail
        go_ret
        exact ⟨rfl, HT.out.old⟩
end Go.Proofs.Ytodhaaaodmcplaa
