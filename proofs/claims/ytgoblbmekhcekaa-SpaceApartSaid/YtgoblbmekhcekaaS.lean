/- The law SpaceApart of layer 19 (space): it returns true at every input. -/
import Derived.Test.YtgoblbmekhcekaaO
import Derived.Test.YtgoblbmekhcekaaS0
import Derived.Test.YtgoblbmekhcekaaS1
namespace Go.Proofs.Ytgoblbmekhcekaa
open Go.RowKit
theorem takeR_len (g : Geo) (n : Nw) (was : List Nw) (s : Int) (deep : Bool) : (takeR g n was s deep).was.length ≤ was.length + 1 := by
  unfold takeR
  split
  · exact Nat.le_succ _
  · split
    · split
      · exact Nat.le_succ _
      · simp
    · simp
/-- A space and a set that a law keeps beside it. -/
def Bes (W w : World) (b : Nat) (g : Geo) (s : Nw × List Nw) (M n : Nat) (S : Int → Bool) : Prop :=
  ∃ X : Nat → Prop, SpX w X b g s.1 s.2 ∧ (∀ k, X k → W.heap.size ≤ k) ∧ ¬ X M ∧ W.heap.size ≤ M ∧ Tk w M n S ∧ Below W.heap.size W w
theorem Bes.go {W w w' : World} {b : Nat} {g : Geo} {s : Nw × List Nw} {M n : Nat} {S : Int → Bool} (h : Bes W w b g s M n S) (hb : Below w.heap.size w w') : Bes W w' b g s M n S := by
  obtain ⟨X, h1, h2, h3, h4, h5, h6⟩ := h
  exact ⟨X, h1.go hb, h2, h3, h4, h5.keeps (hb.block M h5.lt), h6.trans (hb.mono h6.size)⟩
theorem Bes.below {W w : World} {b : Nat} {g : Geo} {s : Nw × List Nw} {M n : Nat} {S : Int → Bool} (h : Bes W w b g s M n S) : Below W.heap.size W w := by
  obtain ⟨X, h1, h2, h3, h4, h5, h6⟩ := h
  exact h6
theorem Bes.tk {W w : World} {b : Nat} {g : Geo} {s : Nw × List Nw} {M n : Nat} {S : Int → Bool} (h : Bes W w b g s M n S) : Tk w M n S := by
  obtain ⟨X, h1, h2, h3, h4, h5, h6⟩ := h
  exact h5
theorem Bes.ok {W w : World} {b : Nat} {g : Geo} {s : Nw × List Nw} {M n : Nat} {S : Int → Bool} (h : Bes W w b g s M n S) : rightB g = true := by
  obtain ⟨X, ⟨row, h1, -⟩, -⟩ := h
  exact h1.right
theorem Bes.mono {W w : World} {b : Nat} {g : Geo} {s : Nw × List Nw} {M n n' : Nat} {S : Int → Bool} (h : Bes W w b g s M n S) (hn : n ≤ n') : Bes W w b g s M n' S := by
  obtain ⟨X, h1, h2, h3, h4, h5, h6⟩ := h
  exact ⟨X, h1, h2, h3, h4, h5.mono hn, h6⟩
theorem Bes.eq {W w : World} {b : Nat} {g : Geo} {s : Nw × List Nw} {M n : Nat} {S S' : Int → Bool} (h : Bes W w b g s M n S) (hS : ∀ x, S x = S' x) : Bes W w b g s M n S' := by
  obtain ⟨X, h1, h2, h3, h4, h5, h6⟩ := h
  exact ⟨X, h1, h2, h3, h4, h5.eq hS, h6⟩
theorem Bes.put {W w w' : World} {b : Nat} {g : Geo} {s : Nw × List Nw} {M n n' : Nat} {S S' : Int → Bool} (h : Bes W w b g s M n S) (ht : Tk w' M n' S') (hg : w.grownBy w' (some M)) : Bes W w' b g s M n' S' := by
  obtain ⟨X, h1, h2, h3, h4, h5, h6⟩ := h
  exact ⟨_, h1.keeps (S := fun k => k = M) (Keeps.grown hg fun k e => (Option.some.inj e).symm) (fun k hk e => h3 (e ▸ hk)), h2, h3, h4, ht, h6.grown hg h6.size fun k e => by obtain rfl := Option.some.inj e; exact h4⟩
theorem bes_take (x : Int) (deep : Bool) {W w : World} {b : Nat} {g : Geo} {s : Nw × List Nw} {M n : Nat} {S : Int → Bool} (h : Bes W w b g s M n S) (hl : s.2.length ≤ 100000) :
    Calls Try.prog 11 #[.pointer (some ⟨b, 0, none⟩), .int .i64 x, .bool deep] w fun e w' => e = .returned (.tuple #[.int .i64 (takeR g s.1 s.2 x deep).at_, .int .i64 (takeR g s.1 s.2 x deep).err]) ∧ Bes W w' b g ((takeR g s.1 s.2 x deep).n, (takeR g s.1 s.2 x deep).was) M n S := by
  obtain ⟨X, h1, h2, h3, h4, h5, h6⟩ := h
  refine (takeX x deep w _ b g s.1 s.2 h1.lt hl).mono fun e w' hg => ⟨hg.1, ?_⟩
  obtain ⟨-, q1, q2⟩ := hg
  have hM := h5.lt
  refine ⟨_, q1, fun k hk => hk.elim (fun h => h2 k h.1) fun h => Nat.le_trans h6.size h, fun hx => ?_, h4, h5.keeps (q2.block M hM fun h => h3 h.1), h6.trans (q2.below (fun k hk => h2 k hk.1) h6.size)⟩
  rcases hx with hx | hx
  · exact h3 hx.1
  · omega
theorem bes_free {W w : World} {b : Nat} {g : Geo} {s : Nw × List Nw} {M n : Nat} {S : Int → Bool} (h : Bes W w b g s M n S) :
    Calls Try.prog 10 #[.pointer (some ⟨b, 0, none⟩)] w fun e w' => e = .returned (.int .i64 (s.1.fr.count true : Nat)) ∧ Bes W w' b g s M n S := by
  have hh := h
  obtain ⟨X, h1, -⟩ := h
  exact (freeX w X b g s.1 s.2 h1).mono fun e w' hg => ⟨hg.1, hh.go hg.2⟩
theorem bes_open {W w : World} {b : Nat} {g : Geo} {s : Nw × List Nw} {M n : Nat} {S : Int → Bool} (h : Bes W w b g s M n S) : Calls Try.prog 13 #[.pointer (some ⟨b, 0, none⟩)] w fun e w' => e = .returned (.int .i64 s.1.op) ∧ w = w' := by
  obtain ⟨X, h1, -⟩ := h
  exact openX w X b g s.1 s.2 h1
theorem Bes.drew {W w : World} {b : Nat} {g : Geo} {s : Nw × List Nw} {M n : Nat} {S : Int → Bool} (h : Bes W w b g s M n S) : Bes W w.drew b g s M n S := h.go (below_drewN (Below.refl _ w) 1)
theorem bes_take_a (x : Int) (deep : Bool) {W w : World} {b : Nat} {g : Geo} {s : Nw × List Nw} {M n : Nat} {S : Int → Bool} (h : Bes W w b g s M n S) (hl : s.2.length ≤ 100000) (hx : x < 1 ∨ g.G < x) :
    Calls Try.prog 11 #[.pointer (some ⟨b, 0, none⟩), .int .i64 x, .bool deep] w fun e w' => e = .returned (.tuple #[.int .i64 0, .int .i64 2]) ∧ Bes W w' b g s M n S := by
  have e : takeR g s.1 s.2 x deep = ⟨s.1, s.2, 0, 2⟩ := by unfold takeR; rw [if_pos hx]
  have := bes_take x deep h hl
  rw [e] at this
  exact this
theorem bes_take_b (x : Int) (deep : Bool) {W w : World} {b : Nat} {g : Geo} {s : Nw × List Nw} {M n : Nat} {S : Int → Bool} (h : Bes W w b g s M n S) (hl : s.2.length ≤ 100000) (hx : ¬ (x < 1 ∨ g.G < x)) (hno : (needB g s.1 x && noB s.1 deep) = true) :
    Calls Try.prog 11 #[.pointer (some ⟨b, 0, none⟩), .int .i64 x, .bool deep] w fun e w' => e = .returned (.tuple #[.int .i64 0, .int .i64 11]) ∧ Bes W w' b g s M n S := by
  rw [Bool.and_eq_true] at hno
  have e : takeR g s.1 s.2 x deep = ⟨s.1, s.2, 0, 11⟩ := by unfold takeR; rw [if_neg hx, if_pos hno.1, if_pos hno.2]
  have := bes_take x deep h hl
  rw [e] at this
  exact this
theorem noB_le {c : Bool} {n : Nw} {deep : Bool} (h : (c && noB n deep) = true) : n.fr.count true < 2 := by
  simp only [noB, Bool.and_eq_true, Bool.or_eq_true, decide_eq_true_eq] at h
  omega
theorem noB_deep {c : Bool} {n : Nw} {deep : Bool} (h : (c && noB n deep) = true) : n.fr.count true < 1 ∨ deep = false := by
  simp only [noB, Bool.and_eq_true, Bool.or_eq_true, decide_eq_true_eq, Bool.not_eq_true'] at h
  rcases h.2 with h | h
  · exact .inl h
  · exact .inr h.2
def TookPost (W : World) (b : Nat) (g : Geo) (f : Nat → Int) (s : Nw × List Nw) (M n : Nat) (S : Int → Bool) (x : Int) (deep : Bool) (e : Ending) (w' : World) : Prop :=
  ∃ s' a K, e = .returned (.tuple #[.int .i64 a, .int .i64 0]) ∧ Took g f s s' S x deep a K ∧ s'.2.length ≤ s.2.length + 1 ∧ Bes W w' b g s' M n S
theorem bes_take_c (x : Int) (deep : Bool) {W w : World} {b : Nat} {g : Geo} {f : Nat → Int} {s : Nw × List Nw} {M n : Nat} {S : Int → Bool} (h : Bes W w b g s M n S) (hap : Ap g f s S) (hl : s.2.length ≤ 100000) (hx : ¬ (x < 1 ∨ g.G < x)) (hno : (needB g s.1 x && noB s.1 deep) = false) :
    Calls Try.prog 11 #[.pointer (some ⟨b, 0, none⟩), .int .i64 x, .bool deep] w (TookPost W b g f s M n S x deep) := by
  obtain ⟨a, K, h1, h2, h3⟩ := took (x := x) (deep := deep) h.ok hap (by omega) (by omega) hno
  refine (bes_take x deep h hl).mono fun e w' ⟨q1, q2⟩ => ⟨_, a, K, ?_, h3, takeR_len _ _ _ _ _, q2⟩
  rw [q1, h1, h2]
theorem wf_small {x : Int} (h0 : 0 ≤ x) (h1 : x ≤ 300000) : (Lit.int .i64 x).wf = true := by
  have hmin : IntKind.i64.min = -9223372036854775808 := rfl
  have hmax : IntKind.i64.max = 9223372036854775807 := rfl
  simp only [Lit.wf, Bool.and_eq_true, decide_eq_true_eq, hmin, hmax]
  omega
theorem most_of {n : Nat} : n ≤ 200000 → n < maxLen := by unfold maxLen; omega
def SetJ (S : Int → Bool) (a : Int) (j : Nat) : Int → Bool := fun y => S y || (decide (a ≤ y) && decide (y < a + j))
theorem setJ_0 (S : Int → Bool) (a : Int) (y : Int) : S y = SetJ S a 0 y := by
  unfold SetJ
  rw [show (decide (a ≤ y) && decide (y < a + (0 : Nat))) = false by simp]
  simp
theorem setJ_s (S : Int → Bool) (a : Int) (j : Nat) (y : Int) : (SetJ S a j y || decide (y = a + j)) = SetJ S a (j + 1) y := by
  unfold SetJ
  rw [Bool.or_assoc]
  congr 1
  rw [Bool.eq_iff_iff]
  simp
  omega
theorem setJ_no {S : Int → Bool} {a x : Int} {j : Nat} (h : ∀ y, a ≤ y → y < a + x → S y = false) (hj : (j : Int) < x) : SetJ S a j (a + j) = false := by
  unfold SetJ
  rw [h _ (by omega) (by omega)]
  simp
/-- What the loop over deeds keeps. -/
def Rel (W w : World) (b : Nat) (g : Geo) (f : Nat → Int) (M k : Nat) : Prop := ∃ s n S, Bes W w b g s M n S ∧ Ap g f s S ∧ s.2.length ≤ k ∧ n ≤ 1024 * k
set_option maxRecDepth 100000 in
set_option maxHeartbeats 8000000 in
theorem apart3 (g : Geo) (f : Nat → Int) (A1 : Option Addr) (n1 c1 : Nat) (A2 : Option Addr) (n2 c2 : Nat) (D : Nat → Deed) (W : World) (hn1 : n1 ≤ 140737488351232) (hn2 : n2 ≤ 140737488351232)
    (ha : Arr W W.heap.size A1 n1 fun j => .int .i64 (f j)) (hd : DdsAt W A2 n2 D) : Calls Try.prog 3 #[gv g, .slice A1 n1 c1, .slice A2 n2 c2] W fun e W' => e = .returned (.bool true) ∧ Below W.heap.size W W' := by
  have HA := Lib.hid ha
  have HD := Lib.hid hd
  have hB := Lib.hid ((Below.refl _ W).alloc (Nat.le_refl W.heap.size) (.cells (gcs g) 23))
  have K0 := Lib.hid (heap_new W (.cells (gcs g) 23))
  clear ha hd
  go_enter Try.func3, Try.ntmps3
  go_wp2_with fail
  refine (awake7 _).mono ?_
  rintro e w1 ⟨rfl, hb1⟩
  have B1 := Lib.hid (hB.out.trans (hb1.mono hB.out.size))
  have K1 := Lib.hid ((hb1.block W.heap.size (heap_lt K0.out)).trans K0.out)
  clear hb1 K0 hB
  go_upto_region 3 with fail
  obtain ⟨ok, hok⟩ : ∃ ok, ok = (lightB D n2 && decide (n1 ≤ 300) && decide (g.S ≤ 60)) := ⟨_, rfl⟩
  have HOK := Lib.hid hok
  go_cut [32] from 20 to 32 (fun s32 w' => s32 = .bool (!ok) ∧ w' = w1)
  case first =>
    obtain ⟨e0, e1, e2, e3, e4⟩ := geo_at K1.out
    cases q1 : lightB D n2
    · rw [q1, Bool.false_and, Bool.false_and] at hok
      subst hok
      go_wp2_with fail
      refine (light8 D A2 n2 c2 _ _ hn2 (HD.out.row.below B1.out (Nat.le_refl _)) (fun i hi => (HD.out.lies i hi).le)).mono ?_
      rintro e _ ⟨rfl, rfl⟩
      rw [q1]
      go_wp2_with fail
      go_meet
      exact ⟨rfl, rfl⟩
    by_cases q3 : n1 ≤ 300
    · by_cases q4 : g.S ≤ 60
      · have t3 : decide ((300 : Int) < n1) = false := by simp; omega
        have t4 : decide ((60 : Int) < g.S) = false := by simp; omega
        simp only [q1, q3, q4, decide_true, Bool.and_true] at hok
        subst hok
        clear q3 q4
        go_wp2_with fail
        refine (light8 D A2 n2 c2 _ _ hn2 (HD.out.row.below B1.out (Nat.le_refl _)) (fun i hi => (HD.out.lies i hi).le)).mono ?_
        rintro e _ ⟨rfl, rfl⟩
        rw [q1]
        go_wp2_with fail
        go_meet
        exact ⟨rfl, rfl⟩
      · have t3 : decide ((300 : Int) < n1) = false := by simp; omega
        have t4 : decide ((60 : Int) < g.S) = true := by simp; omega
        simp only [q4, decide_false, Bool.and_false] at hok
        subst hok
        clear q3 q4
        go_wp2_with fail
        refine (light8 D A2 n2 c2 _ _ hn2 (HD.out.row.below B1.out (Nat.le_refl _)) (fun i hi => (HD.out.lies i hi).le)).mono ?_
        rintro e _ ⟨rfl, rfl⟩
        rw [q1]
        go_wp2_with fail
        go_meet
        exact ⟨rfl, rfl⟩
    · have t3 : decide ((300 : Int) < n1) = true := by simp; omega
      simp only [q3, decide_false, Bool.and_false, Bool.false_and] at hok
      subst hok
      clear q3
      go_wp2_with fail
      refine (light8 D A2 n2 c2 _ _ hn2 (HD.out.row.below B1.out (Nat.le_refl _)) (fun i hi => (HD.out.lies i hi).le)).mono ?_
      rintro e _ ⟨rfl, rfl⟩
      rw [q1]
      go_wp2_with fail
      go_meet
      exact ⟨rfl, rfl⟩
  case rest =>
    obtain ⟨rfl, rfl⟩ := hcut
    clear hok
    cases ok
    · go_wp2_with fail
      go_ret
      exact ⟨rfl, B1.out⟩
    have HOK2 : Hid (n2 ≤ 100 ∧ n1 ≤ 300) := Lib.hid (by
      have := HOK.out
      simp only [lightB, eq_comm (a := true), Bool.and_eq_true, decide_eq_true_eq] at this
      omega)
    obtain ⟨e0, e1, e2, e3, e4⟩ := geo_at K1.out
    have HA1 := Lib.hid ((HA.out.below B1.out (Nat.le_refl _)).more B1.out.size)
    cases hnew : newB g f n1
    · have HNEW := Lib.hid hnew
      clear hnew
      go_wp2_with fail
      refine (new9f g f A1 n1 c1 wc hn1 HA1.out HNEW.out).mono ?_
      rintro e w2 ⟨rfl, hb2⟩
      have B2 := Lib.hid (B1.out.trans (hb2.mono B1.out.size))
      clear hb2
      go_wp2_with fail
      go_ret
      exact ⟨rfl, B2.out⟩
    have HNEW := Lib.hid hnew
    clear hnew
    go_wp2_with fail
    refine (newX g f A1 n1 c1 wc HA1.out HNEW.out).mono ?_
    rintro e w2 ⟨b, rfl, hs2, hb2⟩
    have HMM := @run_makeMap Try.prog
    have S2 : Hid (Rel wc (w2.alloc (.map #[] 0)) b g f w2.heap.size 0) := Lib.hid ⟨(⟨freesL f (-1) n1, -1, 0⟩, []), 0, fun _ => false, ⟨_, hs2.lt.go ((Below.refl _ w2).alloc (Nat.le_refl _) _), fun k hk => hk.1, fun hk => by have := hk.2; omega, hb2.size, tk_made w2, hb2.alloc hb2.size _⟩, ap_new HNEW.out, Nat.le_refl _, Nat.le_refl _⟩
    have HNL : Hid ((n1 : Int) = g.S) := Lib.hid (newB_counts HNEW.out).2.1
    clear hs2 hb2 e0 e1 e2 e3 e4
    obtain ⟨M, hM⟩ : ∃ M, M = w2.heap.size := ⟨_, rfl⟩
    rw [← hM] at S2
    have HEQ := Lib.hid hM
    clear hM
    go_wp2_with fail
    rw [← HEQ.out]
    go_loopw [9] (fun i wr => ∃ k : Nat, k ≤ n2 ∧ i = .int .i64 k ∧ Rel wc wr b g f M k) (fun i _ => n2 - (intOf i).toNat)
    case atStart => exact ⟨0, Nat.zero_le _, rfl, S2.out⟩
    case round =>
      clear S2 HMM
      obtain ⟨k, hk, rfl, s, n, S, hBes, hAp, hsl, hnk⟩ := hrel
      have SP := Lib.hid hBes
      have AP := Lib.hid hAp
      have NK := Lib.hid (And.intro hsl hnk)
      have KR := Lib.hid hBes.ok
      clear hBes hAp hsl hnk
      by_cases hlt : k < n2
      · obtain ⟨b2, off, rfl, hb2l, hc⟩ := HD.out.row (by omega)
        have hb2w : b2 < wc.heap.size := Nat.lt_of_lt_of_le hb2l B1.out.size
        obtain ⟨x, hx⟩ : ∃ x, x = (D k).num := ⟨_, rfl⟩
        obtain ⟨y, hy⟩ : ∃ y, y = (D k).deep := ⟨_, rfl⟩
        have HDC : Hid (∀ w', Below wc.heap.size wc w' → w'.cell? ⟨b2, off + k * 4 + 1, none⟩ = some (.int .i64 x) ∧ w'.cell? ⟨b2, off + k * 4 + 2, none⟩ = some (.bool y) ∧ w'.cell? ⟨W.heap.size, 0, none⟩ = some (.int .i64 g.V) ∧ w'.cell? ⟨W.heap.size, 1, none⟩ = some (.int .i64 g.S) ∧ w'.cell? ⟨W.heap.size, 2, none⟩ = some (.int .i64 g.G) ∧ w'.cell? ⟨W.heap.size, 3, none⟩ = some (.int .i64 g.U) ∧ w'.cell? ⟨W.heap.size, 4, none⟩ = some (.int .i64 g.J)) := Lib.hid fun w' hw' => by
          obtain ⟨-, q1, q2, -⟩ := hc k hlt
          rw [hx, hy]
          obtain ⟨e0, e1, e2, e3, e4⟩ := geo_at ((hw'.block W.heap.size (heap_lt K1.out)).trans K1.out)
          exact ⟨(hw'.cell (p := ⟨b2, off + k * 4 + 1, none⟩) hb2w).trans ((B1.out.cell (p := ⟨b2, off + k * 4 + 1, none⟩) hb2l).trans q1), (hw'.cell (p := ⟨b2, off + k * 4 + 2, none⟩) hb2w).trans ((B1.out.cell (p := ⟨b2, off + k * 4 + 2, none⟩) hb2l).trans q2), e0, e1, e2, e3, e4⟩
        have j0 : (0 : Int) ≤ k := by omega
        have HK2 := Lib.hid HOK2.out.1
        clear hc hx hy
        go_wp2_with fail
        refine (bes_free SP.out).mono ?_
        rintro e w3 ⟨rfl, h3⟩
        obtain ⟨F, hF⟩ : ∃ F, F = s.1.fr.count true := ⟨_, rfl⟩
        rw [← hF]
        have HF := Lib.hid hF
        have S3 := Lib.hid h3
        clear hF h3 SP
        obtain ⟨d1, d2, e0, e1, e2, e3, e4⟩ := HDC.out w3 S3.out.below
        go_upto_region 13 with fail
        have HL : Hid (s.2.length ≤ 100000) := Lib.hid (by have := NK.out; have := HK2.out; omega)
        by_cases ca : x < 1 ∨ g.G < x
        · have CA := Lib.hid ca
          clear ca e0 e1 e2 e3 e4
          go_region_held3 (fun w' => w'.cell? ⟨b2, off + k * 4 + 1, none⟩ = some (.int .i64 x) ∧ w'.cell? ⟨b2, off + k * 4 + 2, none⟩ = some (.bool y)) (go_keep)
            (first | (go_at_call 11; refine (bes_take_a x y S3.out.drew HL.out CA.out).mono ?_; rintro e w4 ⟨rfl, h4⟩; obtain ⟨d3, d4, e0, e1, e2, e3, e4⟩ := HDC.out w4 h4.below))
          have S4 := Lib.hid h4
          clear h4 S3
          by_cases cx : 1 ≤ x
          · have t1 : decide (x ≤ g.G) = false := by have := CA.out; simp; omega
            go_wp2_with fail
            go_quiet (fail)
            go_wp2_with fail
            go_roundw
            case rel => exact ⟨k + 1, by omega, by go_num, s, n, S, S4.out.go (below_drewN (Below.refl _ _) _), AP.out, by have := NK.out; omega, by have := NK.out; omega⟩
            case measure => simp [intOf]; omega
          · have t1 : decide (1 ≤ x) = false := by simp; omega
            clear cx
            go_wp2_with fail
            go_quiet (fail)
            go_wp2_with fail
            go_roundw
            case rel => exact ⟨k + 1, by omega, by go_num, s, n, S, S4.out.go (below_drewN (Below.refl _ _) _), AP.out, by have := NK.out; omega, by have := NK.out; omega⟩
            case measure => simp [intOf]; omega
        have CA := Lib.hid ca
        cases cb : needB g s.1 x && noB s.1 y
        · have CB := Lib.hid cb
          clear cb ca e0 e1 e2 e3 e4
          go_region_held3 (fun w' => w'.cell? ⟨b2, off + k * 4 + 1, none⟩ = some (.int .i64 x) ∧ w'.cell? ⟨b2, off + k * 4 + 2, none⟩ = some (.bool y)) (go_keep)
            (first | (go_at_call 11; refine (bes_take_c x y S3.out.drew AP.out HL.out CA.out CB.out).mono ?_; rintro e w4 ⟨s', a, K, rfl, ht, hsl, h4⟩; obtain ⟨d3, d4, e0, e1, e2, e3, e4⟩ := HDC.out w4 h4.below))
          have S4 := Lib.hid h4
          have HT := Lib.hid ht
          have HSL := Lib.hid hsl
          clear h4 ht hsl S3 AP
          have a0 : 0 ≤ a := HT.out.lo
          have hax := HT.out.hi
          have hxx : 1 ≤ x := by have := CA.out; omega
          go_wp2_with fail
          refine (in14 g a _ (by omega)).mono ?_
          rw [HT.out.in1]
          rintro e w5 ⟨rfl, h5⟩
          have S5 := Lib.hid (S4.out.go h5)
          clear h5 S4 d1 d2 d3 d4 e0 e1 e2 e3 e4
          obtain ⟨d1, d2, e0, e1, e2, e3, e4⟩ := HDC.out w5 S5.out.below
          have t1 : IntKind.i64.wrap (a + x) = a + x := IntWalk.i64_in _ (by omega)
          have t2 : IntKind.i64.wrap (a + x - 1) = a + x - 1 := IntWalk.i64_in _ (by omega)
          go_upto_region 21 with fail
          go_region_held3 (fun w' => w'.cell? ⟨b2, off + k * 4 + 1, none⟩ = some (.int .i64 x) ∧ w'.cell? ⟨W.heap.size, 0, none⟩ = some (.int .i64 g.V) ∧ w'.cell? ⟨W.heap.size, 1, none⟩ = some (.int .i64 g.S) ∧ w'.cell? ⟨W.heap.size, 2, none⟩ = some (.int .i64 g.G) ∧ w'.cell? ⟨W.heap.size, 3, none⟩ = some (.int .i64 g.U) ∧ w'.cell? ⟨W.heap.size, 4, none⟩ = some (.int .i64 g.J)) (go_keep)
            (first | (go_at_call 12; refine (in14 g (a + x - 1) _ (by omega)).mono ?_; rw [HT.out.in2]; rintro e w6 ⟨rfl, h6⟩; obtain ⟨d3, d4, q0, q1, q2, q3, q4⟩ := HDC.out w6 (S5.out.drew.go h6).below))
          have S6 := Lib.hid (S5.out.drew.go h6)
          clear t1 t2 h6 S5 d1 d2 d3 d4 e0 e1 e2 e3 e4 q0 q1 q2 q3 q4
          have hKn : K < n1 := by have := HNL.out; have := HT.out.lt; omega
          obtain ⟨ba, offa, rfl, hba, hca⟩ := HA1.out (by omega)
          have v1 : w6.cell? ⟨ba, offa + K, none⟩ = some (.int .i64 (f K)) := (S6.out.below.cell (p := ⟨ba, offa + K, none⟩) hba).trans (hca K hKn)
          obtain ⟨u, hu⟩ : ∃ u, u = f K := ⟨_, rfl⟩
          rw [← hu] at v1
          have hu0 : u ≤ 0 := by rw [hu]; exact HT.out.free
          have t1 : decide (0 < u) = false := by simp; omega
          have HG : Hid (x ≤ 1024) := Lib.hid (by have := CA.out; have := (fine_right KR.out).g2; omega)
          have j1 : (0 : Int) ≤ K := by omega
          clear hca hu hu0
          go_wp2_with fail
          refine (bes_open S6.out).mono ?_
          rw [HT.out.op]
          rintro e _ ⟨rfl, rfl⟩
          go_wp2_with fail
          clear v1 t1
          go_loopw [17] (fun i wr => ∃ j : Nat, (j : Int) ≤ x ∧ i = .int .i64 j ∧ Bes wc wr b g s' M (n + j) (SetJ S a j)) (fun i _ => (x - intOf i).toNat)
          case atStart => exact ⟨0, by omega, rfl, S6.out.eq (setJ_0 S a)⟩
          case round =>
            clear S6
            obtain ⟨j, hj, rfl, h7⟩ := hrel
            have S7 := Lib.hid h7
            clear h7
            by_cases hjx : (j : Int) < x
            · obtain ⟨d1, d2, -⟩ := HDC.out _ S7.out.below
              have hnm : n + j < maxLen := most_of (by have := NK.out; have := HK2.out; have := HG.out; omega)
              have HNM := Lib.hid hnm
              clear hnm
              go_wp2_with (first | (at_lookup; refine wpList_tk_look _ rfl _ _ rfl M _ _ S7.out.tk rfl (a + j) rfl (wf_small (by omega) (by omega)) false (setJ_no HT.out.no hjx) ?_) | (at_mapUpdate; refine wpList_tk_put _ rfl _ _ _ rfl M _ _ S7.out.tk HNM.out rfl (a + j) rfl rfl (wf_small (by omega) (by omega)) ?_; intro w8 h8 g8))
              go_roundw
              case rel => exact ⟨j + 1, by omega, by go_num, (S7.out.put h8 g8).eq (setJ_s S a j)⟩
              case measure => simp [intOf]; omega
            · obtain rfl : x = j := by omega
              obtain ⟨d1, d2, -⟩ := HDC.out _ S7.out.below
              cases y
              · obtain ⟨F2, hF2⟩ : ∃ F2, F2 = s'.1.fr.count true := ⟨_, rfl⟩
                have HF2 := Lib.hid hF2
                clear hF2
                by_cases hf2 : F2 < 1
                · obtain rfl : F2 = 0 := by omega
                  have hF0 : F = 0 := by have h1 := HT.out.most rfl (by have := HF2.out; omega); have h2 := HF.out; omega
                  subst hF0
                  clear hf2
                  go_wp2_with fail
                  refine (bes_free S7.out).mono ?_
                  rintro e w8 ⟨rfl, h8⟩
                  rw [← HF2.out]
                  have S8 := Lib.hid h8
                  clear h8
                  obtain ⟨d3, d4, -⟩ := HDC.out _ S8.out.below
                  go_wp2_with fail
                  refine (bes_free S8.out).mono ?_
                  rintro e w9 ⟨rfl, h9⟩
                  rw [← HF2.out]
                  have S9 := Lib.hid h9
                  clear h9
                  go_wp2_with fail
                  go_roundw
                  case rel => exact ⟨k + 1, by omega, by go_num, s', n + j, _, S9.out, HT.out.ap, by have := NK.out; have := HSL.out; omega, by have := NK.out; have := HG.out; omega⟩
                  case measure => simp [intOf]; omega
                · have t1 : decide ((F2 : Int) < 1) = false := by simp; omega
                  clear hf2
                  go_wp2_with fail
                  refine (bes_free S7.out).mono ?_
                  rintro e w8 ⟨rfl, h8⟩
                  rw [← HF2.out]
                  have S8 := Lib.hid h8
                  clear h8
                  go_wp2_with fail
                  go_roundw
                  case rel => exact ⟨k + 1, by omega, by go_num, s', n + j, _, S8.out, HT.out.ap, by have := NK.out; have := HSL.out; omega, by have := NK.out; have := HG.out; omega⟩
                  case measure => simp [intOf]; omega
              · go_wp2_with fail
                go_roundw
                case rel => exact ⟨k + 1, by omega, by go_num, s', n + j, _, S7.out, HT.out.ap, by have := NK.out; have := HSL.out; omega, by have := NK.out; have := HG.out; omega⟩
                case measure => simp [intOf]; omega
        · have CB := Lib.hid cb
          clear cb ca e0 e1 e2 e3 e4
          go_region_held3 (fun w' => w'.cell? ⟨b2, off + k * 4 + 1, none⟩ = some (.int .i64 x) ∧ w'.cell? ⟨b2, off + k * 4 + 2, none⟩ = some (.bool y)) (go_keep)
            (first | (go_at_call 11; refine (bes_take_b x y S3.out.drew HL.out CA.out CB.out).mono ?_; rintro e w4 ⟨rfl, h4⟩; obtain ⟨d3, d4, e0, e1, e2, e3, e4⟩ := HDC.out w4 h4.below))
          have S4 := Lib.hid h4
          clear h4 S3
          have t1 : decide ((2 : Int) ≤ F) = false := by
            have h1 := noB_le CB.out
            have h2 := HF.out
            simp
            omega
          by_cases cf : F = 1
          · have cy : y = false := by
              rcases noB_deep CB.out with h1 | h1
              · have h2 := HF.out
                omega
              · exact h1
            subst cf cy
            go_wp2_with fail
            go_roundw
            case rel => exact ⟨k + 1, by omega, by go_num, s, n, S, S4.out, AP.out, by have := NK.out; omega, by have := NK.out; omega⟩
            case measure => simp [intOf]; omega
          · have t2 : ((F : Int) == 1) = false := by simp; omega
            clear cf
            go_wp2_with fail
            go_roundw
            case rel => exact ⟨k + 1, by omega, by go_num, s, n, S, S4.out, AP.out, by have := NK.out; omega, by have := NK.out; omega⟩
            case measure => simp [intOf]; omega
      · obtain rfl : k = n2 := by omega
        clear HEQ
        go_wp2_with fail
        go_ret
        exact ⟨rfl, B1.out.trans (SP.out.below.mono B1.out.size)⟩
end Go.Proofs.Ytgoblbmekhcekaa
