/- Part of the proof of the statements of layer 29 (victim): what each function of the layer, of the reference and of the laws computes, at every input; and that the laws return true. No condition. -/
import Derived.Test.YtnebpcoegomoeaaA
namespace Go.Proofs.Ytnebpcoegomoeaa
open Go.RowKit Go.Shelf
attribute [local go_sem] Oper.semAt_some
/-- Which is the best so far, and how much of it is used. -/
def stp (b : Int × Int) (x : Nat × Int) : Int × Int := if b.1 < 0 ∨ x.2 < b.2 then ((x.1 : Int), x.2) else b
def run (pre : List (Nat × Int)) : Int × Int := pre.foldl stp (-1, 0)
theorem run_hit {pre : List (Nat × Int)} {x : Nat × Int} (h : (run pre).1 < 0 ∨ x.2 < (run pre).2) : run (pre ++ [x]) = ((x.1 : Int), x.2) := by
  simp only [run, List.foldl_append, List.foldl_cons, List.foldl_nil]
  exact if_pos h
theorem run_miss {pre : List (Nat × Int)} {x : Nat × Int} (h : ¬ ((run pre).1 < 0 ∨ x.2 < (run pre).2)) : run (pre ++ [x]) = run pre := by
  simp only [run, List.foldl_append, List.foldl_cons, List.foldl_nil]
  exact if_neg h
theorem run_sel (f : Nat → Int) (op : Int) : ∀ k : Nat, run (sel f op k) = (pk f op k, if pk f op k < 0 then 0 else f (pk f op k).toNat)
  | 0 => by simp [sel, run, pk]
  | k + 1 => by
    have ih := run_sel f op k
    have hb := pk_bd f op k
    by_cases h : 1 ≤ f k ∧ (k : Int) ≠ op
    · rw [sel_hit h.1 h.2]
      by_cases h3 : pk f op k < 0
      · rw [run_hit (.inl (by rw [ih]; exact h3)), pk_hit h.1 h.2 (.inl h3), if_neg (by omega)]; simp
      · by_cases h4 : f k < f (pk f op k).toNat
        · rw [run_hit (.inr (by rw [ih]; simp only [if_neg h3]; exact h4)), pk_hit h.1 h.2 (.inr h4), if_neg (by omega)]; simp
        · rw [run_miss (by rw [ih]; simp only [if_neg h3]; intro h5; rcases h5 with h5 | h5 <;> omega), pk_miss (by intro h5; rcases h5.2.2 with h5 | h5 <;> omega), ih]
    · rw [sel_miss h, pk_miss (fun h5 => h ⟨h5.1, h5.2.1⟩), ih]
set_option maxRecDepth 100000 in
set_option maxHeartbeats 4000000 in
theorem pick_in (F : Fence) (N : Nat) (h9 : F.fn 9) (h16 : F.fn 16) (h17 : F.fn 17) (hro : F.round = none) (hN : 3 ≤ N) (A : Option Addr) (n cap : Nat) (f : Nat → Int) (op : Int) (hn : n ≤ 9223372036854775807) (w : World)
    (ha : Arr w w.heap.size A n fun j => .int .i64 (f j)) :
    CallsIn F N Try.prog 9 #[.slice A n cap, .int .i64 op] w fun e W' => e = .returned (.int .i64 (pk f op n)) ∧ Below w.heap.size w W' := by
  have h1 : 1 ≤ N := by omega
  refine callsIn_of_wp_marks Try.func9 rfl h9 ?_ hro
  simp only [Try.ntmps9, List.size_toArray, List.length_cons, List.length_nil, Nat.reduceAdd, Nat.reduceSub, Array.replicate_succ, Array.replicate_zero, List.push_toArray, List.append_toArray, List.nil_append, List.cons_append]
  gi_wp2_with (gi_at_call 16; refine (may_in F (N - 1) h16 hro _ _ _ _ _).mono ?_; rintro e w' ⟨rfl, rfl⟩)
  have b0 := Boxed.new w 3 (.int .i64 (-1))
  have b1 := Boxed.new (w.alloc (.cells #[.int .i64 (-1)] 3)) 3 (.int .i64 0)
  rw [World.size_alloc] at b1
  have b2 := Boxed.new ((w.alloc (.cells #[.int .i64 (-1)] 3)).alloc (.cells #[.int .i64 0] 3)) 22 (.slice A n cap)
  rw [World.size_alloc, World.size_alloc] at b2
  have b3 := Boxed.new (((w.alloc (.cells #[.int .i64 (-1)] 3)).alloc (.cells #[.int .i64 0] 3)).alloc (.cells #[.slice A n cap] 22)) 3 (.int .i64 op)
  rw [World.size_alloc, World.size_alloc, World.size_alloc] at b3
  have hB0 : Below w.heap.size w ((((w.alloc (.cells #[.int .i64 (-1)] 3)).alloc (.cells #[.int .i64 0] 3)).alloc (.cells #[.slice A n cap] 22)).alloc (.cells #[.int .i64 op] 3)) :=
    ((((Below.refl _ w).alloc (Nat.le_refl _) _).alloc (by simp) _).alloc (by simp; omega) _).alloc (by simp; omega) _
  have hst := fun l J Jx W hW (_ : AbidesFrom W.heap.size J) (_ : AbidesFrom W.heap.size Jx) hY h0 => may1_in F (N - 1) h17 hro (by omega) l (w.heap.size + 1 + 1) (w.heap.size + 1 + 1 + 1) w.heap.size n cap A f op hn J Jx hY W
    (((hW : Below ((((w.alloc (.cells #[.int .i64 (-1)] 3)).alloc (.cells #[.int .i64 0] 3)).alloc (.cells #[.slice A n cap] 22)).alloc (.cells #[.int .i64 op] 3)).heap.size _ W).cell (p := ⟨w.heap.size + 1 + 1, 0, none⟩) (by simp)).trans (b2.alloc _).cell)
    ((hW.cell (p := ⟨w.heap.size + 1 + 1 + 1, 0, none⟩) (by simp)).trans b3.cell)
    ((ha.below hB0 (Nat.le_refl _)).below hW (by simp; omega)) h0
  refine wpIn_rangeFunc_ownG hro h1 (gf := 17) (lb := #[.pointer (some ⟨w.heap.size + 1 + 1, 0, none⟩), .pointer (some ⟨w.heap.size + 1 + 1 + 1, 0, none⟩)]) rfl h17 (enters_of Try.func17 (by kernel_rfl) rfl)
    (encs := fun x : Nat × Int => #[Value.int .i64 (x.1 : Int), Value.int .i64 x.2]) (Kp := Kb w.heap.size (w.heap.size + 1 + 1 + 1)) (S := fun ys => ys = sel f op n) (Sp := fun _ => True) (N := (sel f op n).length)
    hst Kb.trans (Kb.base (by simp; omega) (by simp)) (Below.refl _ _) (fun _ => rfl)
    (fun pre W => ((W.cell? ⟨w.heap.size, 0, none⟩ = some (.int .i64 (run pre).1) ∧ W.frozen? ⟨w.heap.size, 0, none⟩ = false) ∧ W.cell? ⟨w.heap.size + 1, 0, none⟩ = some (.int .i64 (run pre).2) ∧ W.frozen? ⟨w.heap.size + 1, 0, none⟩ = false) ∧ Below w.heap.size w W)
    (fun _ _ _ => False)
    (OwnFrom.and (Own.from (fun s A B row hs hg hr => ⟨⟨cell_kept hs.1.1 hg hr, (frozen_kept hs.1.1 hg hr).trans hs.1.2⟩, cell_kept hs.2.1 hg hr, (frozen_kept hs.2.1 hg hr).trans hs.2.2⟩) _) (ownFrom_below (Nat.le_refl _) (by simp; omega)))
    (fun _ _ _ _ _ hs _ _ => hs)
    ⟨⟨⟨(((b0.alloc _).alloc _).alloc _).cell, (((b0.alloc _).alloc _).alloc _).frozen⟩, ((b1.alloc _).alloc _).cell, ((b1.alloc _).alloc _).frozen⟩, hB0⟩
    (fun x => { tmps := #[.slice A n cap, .int .i64 op, undef, undef, .int .i64 0, .pointer (some ⟨w.heap.size, 0, none⟩), .pointer (some ⟨w.heap.size + 1, 0, none⟩), .int .i64 (x.1 : Int), .int .i64 x.2, .slice A n cap, .int .i64 op,
      .func (.func 17) #[] #[.pointer (some ⟨w.heap.size + 1 + 1, 0, none⟩), .pointer (some ⟨w.heap.size + 1 + 1 + 1, 0, none⟩)], .int .i64 (x.1 : Int), .int .i64 x.2, undef, undef, undef, undef, undef, undef, undef, undef, undef, undef], defers := [] }) ?assign ?body ?done ?stop
  case assign =>
    intro l x W K hK
    gi_wp2
    exact hK
  case body =>
    rintro l pre x W ⟨⟨⟨hc0, hf0⟩, hc1, hf1⟩, hB⟩ _
    by_cases hx : (run pre).1 < 0 ∨ x.2 < (run pre).2
    · have E := Lib.hid (run_hit hx)
      have hk : KeepsOthers W ((W.setCell ⟨w.heap.size, 0, none⟩ (.int .i64 x.1)).setCell ⟨w.heap.size + 1, 0, none⟩ (.int .i64 x.2)) := (KeepsOthers.setCell _ _ _).trans (KeepsOthers.setCell _ _ _)
      have hKb : Kb w.heap.size (w.heap.size + 1 + 1 + 1) W ((W.setCell ⟨w.heap.size, 0, none⟩ (.int .i64 x.1)).setCell ⟨w.heap.size + 1, 0, none⟩ (.int .i64 x.2)) :=
        ⟨((Below.refl w.heap.size W).setCell (p := ⟨w.heap.size, 0, none⟩) (Nat.le_refl _) _).setCell (p := ⟨w.heap.size + 1, 0, none⟩) (Nat.le_succ _) _, by
          rw [World.cell?_setCell_other _ _ _ _ (by simp), World.cell?_setCell_other _ _ _ _ (by simp)]⟩
      have hI : (((W.setCell ⟨w.heap.size, 0, none⟩ (.int .i64 x.1)).setCell ⟨w.heap.size + 1, 0, none⟩ (.int .i64 x.2)).cell? ⟨w.heap.size, 0, none⟩ = some (.int .i64 x.1)) ∧ (((W.setCell ⟨w.heap.size, 0, none⟩ (.int .i64 x.1)).setCell ⟨w.heap.size + 1, 0, none⟩ (.int .i64 x.2)).cell? ⟨w.heap.size + 1, 0, none⟩ = some (.int .i64 x.2)) := by
        refine ⟨?_, World.cell?_setCell_same' _ _ _ (by rw [World.cell?_setCell_other _ _ _ _ (by simp), hc1]; rfl)⟩
        rw [World.cell?_setCell_other _ _ _ _ (by simp)]
        exact World.cell?_setCell_same' _ _ _ (by rw [hc0]; rfl)
      have HK := Lib.hid hk
      have HKb := Lib.hid hKb
      have HI := Lib.hid hI
      clear hk hKb hI
      rcases hx with hx | hx
      · gi_wp2
        exact ⟨HK.out.from _, HKb.out, ⟨⟨by rw [E.out]; exact HI.out.1, by rw [World.frozen?_setCell, World.frozen?_setCell]; exact hf0⟩, by rw [E.out]; exact HI.out.2, by rw [World.frozen?_setCell, World.frozen?_setCell]; exact hf1⟩, hB.trans HKb.out.1⟩
      · by_cases h0 : (run pre).1 < 0
        · gi_wp2
          exact ⟨HK.out.from _, HKb.out, ⟨⟨by rw [E.out]; exact HI.out.1, by rw [World.frozen?_setCell, World.frozen?_setCell]; exact hf0⟩, by rw [E.out]; exact HI.out.2, by rw [World.frozen?_setCell, World.frozen?_setCell]; exact hf1⟩, hB.trans HKb.out.1⟩
        · have h3 : decide ((run pre).1 < 0) = false := by simp; omega
          gi_wp2
          exact ⟨HK.out.from _, HKb.out, ⟨⟨by rw [E.out]; exact HI.out.1, by rw [World.frozen?_setCell, World.frozen?_setCell]; exact hf0⟩, by rw [E.out]; exact HI.out.2, by rw [World.frozen?_setCell, World.frozen?_setCell]; exact hf1⟩, hB.trans HKb.out.1⟩
    · have E := Lib.hid (run_miss hx)
      have h3 : decide ((run pre).1 < 0) = false := by simp; omega
      have h4 : decide (x.2 < (run pre).2) = false := by simp; omega
      gi_wp2
      exact ⟨KeepsFrom.refl _ _, ⟨Below.refl _ _, rfl⟩, by rw [E.out]; exact ⟨⟨hc0, hf0⟩, hc1, hf1⟩, hB⟩
  case done =>
    rintro D ys W hD rfl ⟨⟨⟨hc0, hf0⟩, hc1, hf1⟩, hB⟩ hK
    rw [run_sel] at hc0
    gi_wp2
    refine ⟨by simp, .inl ⟨_, _, rfl, run_takeDeferred hK, ?_⟩⟩
    exact ⟨_, results_tmp rfl _ _ _, rfl, hB.trans (belowK_b (w := w) (Nat.le_refl _) W D _ _ (by simp at hD; omega) hK rfl rfl)⟩
  case stop =>
    rintro D c pre W _ _ h _
    exact h.elim
end Go.Proofs.Ytnebpcoegomoeaa
