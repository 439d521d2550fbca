/- Deeds as they lie in memory; spaces that aren't there; the law SpaceNone of layer 19: it returns true at every input. -/
import Derived.Test.YtgoblbmekhcekaaI
import Derived.BigQuiet
import Derived.Deep.QuietTactic
namespace Go.Proofs.Ytgoblbmekhcekaa
open Go.RowKit
/-- A deed. -/
structure Deed where
  kind : Int
  num : Int
  deep : Bool
  A : Option Addr
  m : Nat
  c : Nat
  f : Nat → Int
abbrev Deed.cells (d : Deed) : Array Value := #[.int .i64 d.kind, .int .i64 d.num, .bool d.deep, .slice d.A d.m d.c]
/-- A deed's counts lie where it says. -/
structure Deed.Lies (d : Deed) (w : World) (B : Nat) : Prop where
  arr : Arr w B d.A d.m fun j => .int .i64 (d.f j)
  nul : d.A = none → d.m = 0 ∧ d.c = 0
  le : d.m ≤ 9223372036854775807
/-- A row of deeds. -/
def Dds (w : World) (B : Nat) (A : Option Addr) (n : Nat) (D : Nat → Deed) : Prop :=
  0 < n → ∃ b off, A = some ⟨b, off, none⟩ ∧ b < B ∧ ∀ i, i < n → w.cell? ⟨b, off + i * 4, none⟩ = some (.int .i64 (D i).kind) ∧ w.cell? ⟨b, off + i * 4 + 1, none⟩ = some (.int .i64 (D i).num) ∧ w.cell? ⟨b, off + i * 4 + 2, none⟩ = some (.bool (D i).deep) ∧ w.cell? ⟨b, off + i * 4 + 3, none⟩ = some (.slice (D i).A (D i).m (D i).c)
theorem Dds.below {w w' : World} {B B' : Nat} {A : Option Addr} {n : Nat} {D : Nat → Deed} (h : Dds w B A n D) (hb : Below B' w w') (hB : B ≤ B') : Dds w' B A n D := fun hn => by
  obtain ⟨b, off, e, hlt, hc⟩ := h hn
  refine ⟨b, off, e, hlt, fun i hi => ?_⟩
  obtain ⟨h0, h1, h2, h3⟩ := hc i hi
  have k := fun o => hb.cell (p := ⟨b, o, none⟩) (by show b < B'; omega)
  exact ⟨(k _).trans h0, (k _).trans h1, (k _).trans h2, (k _).trans h3⟩
/-- May the first k deeds be gone through? -/
def lightL (D : Nat → Deed) : Nat → Bool
  | 0 => true
  | k + 1 => lightL D k && decide ((D k).m ≤ 300)
theorem lightL_iff {D : Nat → Deed} : ∀ {n : Nat}, lightL D n = true ↔ ∀ i, i < n → (D i).m ≤ 300
  | 0 => by simp [lightL]
  | n + 1 => by
    rw [lightL, Bool.and_eq_true, lightL_iff (n := n), decide_eq_true_eq]
    constructor
    · rintro ⟨h1, h2⟩ j hj
      rcases Nat.lt_or_ge j n with h | h
      · exact h1 j h
      · obtain rfl : j = n := by omega
        exact h2
    · intro h
      exact ⟨fun j hj => h j (by omega), h n (by omega)⟩
def lightB (D : Nat → Deed) (n : Nat) : Bool := lightL D n && decide (n ≤ 100)
theorem lightL_not {D : Nat → Deed} {n k : Nat} (hk : k < n) (h : 300 < (D k).m) : lightL D n = false := by
  cases e : lightL D n
  · rfl
  · have := lightL_iff.1 e k hk; omega
set_option maxHeartbeats 1000000 in
theorem light8 (D : Nat → Deed) (A : Option Addr) (n c B : Nat) (w : World) (hn : n ≤ 140737488351232) (h : Dds w B A n D) (hm : ∀ i, i < n → (D i).m ≤ 9223372036854775807) : Calls Try.prog 8 #[.slice A n c] w fun e w' => e = .returned (.bool (lightB D n)) ∧ w = w' := by
  have H := Lib.hid h
  have HM := Lib.hid hm
  clear h hm
  go_enter Try.func8, Try.ntmps8
  go_wp2
  go_loop [3] (fun i => ∃ k : Nat, k ≤ n ∧ i = .int .i64 k ∧ Hid (lightL D k = true)) (fun i => n - (intOf i).toNat)
  case atStart => exact ⟨0, Nat.zero_le _, rfl, Lib.hid rfl⟩
  case round =>
    obtain ⟨k, hk, rfl, HF⟩ := hrel
    by_cases hlt : k < n
    · obtain ⟨b, off, rfl, -, hc⟩ := H.out (by omega)
      obtain ⟨-, -, -, c3⟩ := hc k hlt
      have hmk := HM.out k hlt
      obtain ⟨m, hmm⟩ : ∃ m, m = (D k).m := ⟨_, rfl⟩
      rw [← hmm] at c3 hmk
      have HMM := Lib.hid hmm
      clear hc hmm
      by_cases h3 : 300 < m
      · have d3 : decide ((300 : Int) < m) = true := by simp; omega
        go_wp2
        go_ret
        exact ⟨ret_bool (by rw [lightB, lightL_not hlt (by rw [← HMM.out]; exact h3)]; rfl), rfl⟩
      · have d3 : decide ((300 : Int) < m) = false := by simp; omega
        go_wp2
        go_round
        case rel => exact ⟨k + 1, by omega, by go_num, Lib.hid (by rw [lightL, HF.out, ← HMM.out]; simp; omega)⟩
        case measure => simp [intOf]; omega
    · obtain rfl : k = n := by omega
      go_wp2
      go_ret
      exact ⟨ret_bool (by rw [lightB, HF.out, Bool.true_and]; exact decide_eq_decide.2 (by omega)), rfl⟩
/-- There is no space at p. -/
def NoSp (w : World) (p : Option Addr) : Prop := p = none ∨ ∃ b, p = some ⟨b, 0, none⟩ ∧ w.cell? ⟨b, 259, none⟩ = some (.int .i64 0)
theorem there_no {w : World} {p : Option Addr} (h : NoSp w p) : Calls Try.prog 30 #[.pointer p] w fun e w' => e = .returned (.bool false) ∧ w = w' := by
  rcases h with rfl | ⟨b, rfl, h⟩
  · exact there_n w
  · exact there_f b w h
set_option maxRecDepth 100000 in
set_option maxHeartbeats 1000000 in
theorem no11 (s : Int) (d : Bool) (w : World) (p : Option Addr) (h : NoSp w p) : Calls Try.prog 11 #[.pointer p, .int .i64 s, .bool d] w fun e w' => e = .returned (.tuple #[.int .i64 0, .int .i64 1]) ∧ w = w' := by
  have H := Lib.hid h
  clear h
  go_enter Try.func11, Try.ntmps11
  go_wp2_with (go_at_call 30; refine (there_no H.out).mono ?_; rintro e w1 ⟨rfl, rfl⟩)
  go_ret2
  exact ⟨rfl, rfl⟩
set_option maxRecDepth 100000 in
set_option maxHeartbeats 1000000 in
theorem no15 (s : Int) (w : World) (p : Option Addr) (h : NoSp w p) : Calls Try.prog 15 #[.pointer p, .int .i64 s] w fun e w' => e = .returned (.int .i64 1) ∧ w = w' := by
  have H := Lib.hid h
  clear h
  go_enter Try.func15, Try.ntmps15
  go_wp2_with (go_at_call 30; refine (there_no H.out).mono ?_; rintro e w1 ⟨rfl, rfl⟩)
  go_ret
  exact ⟨rfl, rfl⟩
set_option maxRecDepth 100000 in
set_option maxHeartbeats 1000000 in
theorem no22 (A : Option Addr) (m c : Nat) (w : World) (p : Option Addr) (h : NoSp w p) : Calls Try.prog 22 #[.pointer p, .slice A m c] w fun e w' => e = .returned (.int .i64 1) ∧ w = w' := by
  have H := Lib.hid h
  clear h
  go_enter Try.func22, Try.ntmps22
  go_wp2_with (go_at_call 30; refine (there_no H.out).mono ?_; rintro e w1 ⟨rfl, rfl⟩)
  go_ret
  exact ⟨rfl, rfl⟩
set_option maxRecDepth 100000 in
set_option maxHeartbeats 1000000 in
theorem no14 (w : World) (p : Option Addr) (h : NoSp w p) : Calls Try.prog 14 #[.pointer p] w fun e w' => e = .returned (.int .i64 0) ∧ w = w' := by
  have H := Lib.hid h
  clear h
  go_enter Try.func14, Try.ntmps14
  go_wp2_with (go_at_call 30; refine (there_no H.out).mono ?_; rintro e w1 ⟨rfl, rfl⟩)
  go_ret
  exact ⟨rfl, rfl⟩
set_option maxRecDepth 100000 in
set_option maxHeartbeats 1000000 in
theorem no10 (w : World) (p : Option Addr) (h : NoSp w p) : Calls Try.prog 10 #[.pointer p] w fun e w' => e = .returned (.int .i64 0) ∧ w = w' := by
  have H := Lib.hid h
  clear h
  go_enter Try.func10, Try.ntmps10
  go_wp2_with (go_at_call 30; refine (there_no H.out).mono ?_; rintro e w1 ⟨rfl, rfl⟩)
  go_ret
  exact ⟨rfl, rfl⟩
set_option maxRecDepth 100000 in
set_option maxHeartbeats 1000000 in
theorem no13 (w : World) (p : Option Addr) (h : NoSp w p) : Calls Try.prog 13 #[.pointer p] w fun e w' => e = .returned (.int .i64 0) ∧ w = w' := by
  have H := Lib.hid h
  clear h
  go_enter Try.func13, Try.ntmps13
  go_wp2_with (go_at_call 30; refine (there_no H.out).mono ?_; rintro e w1 ⟨rfl, rfl⟩)
  go_ret
  exact ⟨rfl, rfl⟩
theorem build59z (u : World) : BuildRun Try.prog 59 #[] u (.agg (newL ⟨0, 0, 0, 0, 0⟩).toArray) := ⟨by kernel_rfl⟩
theorem build23z (u : World) : BuildRun Try.prog 23 #[] u (gv ⟨0, 0, 0, 0, 0⟩) := ⟨by kernel_rfl⟩
theorem no_right : rightB ⟨0, 0, 0, 0, 0⟩ = false := by decide
theorem dds_one {w : World} {h : Nat} {d : Deed} (hb : w.heap[h]? = some (.cells d.cells 36)) : Dds w w.heap.size (some ⟨h, 0, none⟩) 1 fun _ => d := fun _ =>
  ⟨h, 0, rfl, heap_lt hb, fun i hi => match i, hi with | 0, _ => ⟨block_cell hb 0 _ rfl, block_cell hb 1 _ rfl, block_cell hb 2 _ rfl, block_cell hb 3 _ rfl⟩⟩
set_option maxRecDepth 100000 in
set_option maxHeartbeats 4000000 in
theorem none6 (d : Deed) (W : World) (hm : d.m ≤ 9223372036854775807) : Calls Try.prog 6 #[.agg d.cells] W fun e W' => e = .returned (.bool true) ∧ Below W.heap.size W W' := by
  have hB := Lib.hid ((Below.refl _ W).alloc (Nat.le_refl W.heap.size) (.cells d.cells 36))
  have K0 := Lib.hid (heap_new W (.cells d.cells 36))
  go_enter Try.func6, Try.ntmps6
  go_wp2_with fail
  refine (awake7 _).mono ?_
  rintro e w1 ⟨rfl, hb1⟩
  have B1 := Lib.hid (hB.out.trans (hb1.mono hB.out.size))
  have K1 := Lib.hid ((hb1.block W.heap.size (heap_lt K0.out)).trans K0.out)
  clear hb1
  have c0 := block_cell K1.out 0 _ rfl
  have c1 := block_cell K1.out 1 _ rfl
  have c2 := block_cell K1.out 2 _ rfl
  have c3 := block_cell K1.out 3 _ rfl
  go_wp2_with fail
  have HD := Lib.hid (dds_one (d := d) (heap_new w1 (.cells d.cells 36)))
  have B2 := Lib.hid (B1.out.alloc B1.out.size (.cells d.cells 36))
  have K2 := Lib.hid (heap_old (o' := .cells d.cells 36) K1.out)
  clear c0 c1 c2 c3
  refine (light8 (fun _ => d) _ 1 1 _ _ (by omega) HD.out (fun _ _ => hm)).mono ?_
  rintro e _ ⟨rfl, rfl⟩
  obtain ⟨L, hL⟩ : ∃ L, L = lightB (fun _ => d) 1 := ⟨_, rfl⟩
  rw [← hL]
  clear hL
  obtain ⟨w2, hw2⟩ : ∃ w2, w2 = w1.alloc (.cells d.cells 36) := ⟨_, rfl⟩
  rw [← hw2] at B2 K2 ⊢
  clear hw2 HD B1 K1 K0
  cases L
  · go_wp2_with fail
    go_ret
    exact ⟨rfl, B2.out⟩
  · go_upto_region 6 with (refine wpList_buildG rfl 59 [] rfl [] rfl _ (build59z _) ?_)
    obtain ⟨q, hq⟩ : ∃ q, q = w2.heap.size + 1 := ⟨_, rfl⟩
    obtain ⟨b, hb⟩ : ∃ b, b = w2.heap.size := ⟨_, rfl⟩
    obtain ⟨w3, hw3⟩ : ∃ w3, w3 = (w2.alloc (.cells (newL ⟨0, 0, 0, 0, 0⟩).toArray 59)).alloc (.cells #[.pointer none, .pointer (some ⟨w2.heap.size, 0, none⟩)] 28) := ⟨_, rfl⟩
    have Q3 : w3.heap[q]? = some (.cells #[.pointer none, .pointer (some ⟨b, 0, none⟩)] 28) := by rw [hw3, hb]; exact heap_new_at _ (by rw [hq]; simp)
    have Z3 : w3.heap[b]? = some (.cells (newL ⟨0, 0, 0, 0, 0⟩).toArray 59) := by rw [hw3, hb]; exact heap_old (heap_new w2 _)
    have D3 : w3.heap[W.heap.size]? = some (.cells d.cells 36) := by rw [hw3]; exact heap_old (heap_old K2.out)
    have B3 := Lib.hid (show Below W.heap.size W w3 by rw [hw3]; exact (B2.out.alloc B2.out.size _).alloc (B2.out.alloc B2.out.size _).size _)
    have z0 : w3.cell? ⟨b, 259, none⟩ = some (.int .i64 0) := by
      rw [newL_eq ⟨0, 0, 0, 0, 0⟩ (S := 0) (by omega)] at Z3
      exact (sp_cells Z3 (by simp)).2.2.2.1
    have d1 := block_cell D3 1 _ rfl
    have d2 := block_cell D3 2 _ rfl
    have d3 := block_cell D3 3 _ rfl
    have d0 := block_cell D3 0 _ rfl
    rw [← hw3, ← hq]
    have HQ := Lib.hid Q3
    have HZ := Lib.hid z0
    clear hw3 hq hb B2 K2 Q3 Z3 D3 z0
    go_wp2_with fail
    go_loopw [4] (fun i wr => ∃ k m : Nat, k ≤ 2 ∧ i = .int .i64 k ∧ wr = w3.drewN m) (fun i _ => 2 - (intOf i).toNat)
    case atStart => exact ⟨0, 0, by omega, rfl, rfl⟩
    case round =>
      obtain ⟨k, m, hk, rfl, rfl⟩ := hrel
      by_cases hlt : k < 2
      · obtain ⟨p, hp, hno⟩ : ∃ p, w3.cell? ⟨q, k, none⟩ = some (.pointer p) ∧ ∀ m, NoSp (w3.drewN m) p := by
          match k, hlt with
          | 0, _ => exact ⟨none, block_cell HQ.out 0 _ rfl, fun _ => .inl rfl⟩
          | 1, _ => exact ⟨_, block_cell HQ.out 1 _ rfl, fun _ => .inr ⟨b, rfl, HZ.out⟩⟩
        have HP := Lib.hid hno
        have t2 : decide ((k : Int) < 2) = true := by simp; omega
        have j0 : (0 : Int) ≤ k := by omega
        have j1 : (k : Int) < 2 := by omega
        clear hno
        go_wp2_with fail
        go_quiet ((go_at_call 11; exact quiet_add_left (no11 _ _ _ _ (HP.out _))))
        go_wp2_with fail
        go_quiet ((first | (go_at_call 15; exact quiet_add_left (no15 _ _ _ (HP.out _))) | (go_at_call 22; exact quiet_add_left (no22 _ _ _ _ _ (HP.out _))) | (go_at_call 14; exact quiet_add_left (no14 _ _ (HP.out _))) | (go_at_call 10; exact quiet_add_left (no10 _ _ (HP.out _))) | (go_at_call 13; exact quiet_add_left (no13 _ _ (HP.out _)))))
        go_wp2_with fail
        go_roundw
        case rel => exact ⟨k + 1, _, by omega, by go_num, rfl⟩
        case measure => simp [intOf]; omega
      · obtain rfl : k = 2 := by omega
        go_wp2_with (refine wpList_buildG rfl 23 [] rfl [] rfl _ (build23z _) ?_)
        refine (new9f ⟨0, 0, 0, 0, 0⟩ (fun _ => 0) none 0 0 _ (by omega) (fun h => absurd h (by omega)) (by rw [newB, no_right]; rfl)).mono ?_
        rintro e w4 ⟨rfl, hb4⟩
        have B4 := Lib.hid ((below_drewN B3.out m).trans (hb4.mono (below_drewN B3.out m).size))
        clear hb4
        go_wp2_with fail
        go_ret
        exact ⟨rfl, B4.out⟩
end Go.Proofs.Ytgoblbmekhcekaa
