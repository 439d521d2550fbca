/- Contracts of the functions of layer 29 (victim): what each computes. -/
import Derived.RangeFuncNested
import Derived.RangeFuncBound
import Derived.RangeFuncBox
import Derived.RangeFuncCalls
import Derived.RangeFuncLeaves
import Derived.Shelf.Abstract
import Derived.WalkKit
import Derived.OwnWalkIn
import Derived.TacticsInMore
import Derived.LoopNIn
import Derived.LoopIn
import Derived.BigQuiet
import Derived.Deep.QuietTactic
import Derived.Lib.Hide
import Derived.Test.YtnebpcoegomoeaaArr
import Derived.Test.YtnebpcoegomoeaaProg
namespace Go.Proofs.Ytnebpcoegomoeaa
open Go.RowKit Go.Shelf
attribute [local go_sem] Oper.semAt_some
/-- What the document picks among the first k places. -/
def pk (f : Nat → Int) (op : Int) : Nat → Int
  | 0 => -1
  | k + 1 => if 1 ≤ f k ∧ (k : Int) ≠ op ∧ (pk f op k < 0 ∨ f k < f (pk f op k).toNat) then k else pk f op k
theorem pk_bd (f : Nat → Int) (op : Int) : ∀ k : Nat, -1 ≤ pk f op k ∧ pk f op k < k
  | 0 => by simp [pk]
  | k + 1 => by have := pk_bd f op k; unfold pk; split <;> omega
theorem pk_hit {f : Nat → Int} {op : Int} {k : Nat} (h1 : 1 ≤ f k) (h2 : (k : Int) ≠ op) (h3 : pk f op k < 0 ∨ f k < f (pk f op k).toNat) : pk f op (k + 1) = k := by
  unfold pk; rw [if_pos ⟨h1, h2, h3⟩]
theorem pk_miss {f : Nat → Int} {op : Int} {k : Nat} (h : ¬ (1 ≤ f k ∧ (k : Int) ≠ op ∧ (pk f op k < 0 ∨ f k < f (pk f op k).toNat))) : pk f op (k + 1) = pk f op k := by
  conv => lhs; unfold pk
  rw [if_neg h]
set_option maxHeartbeats 1000000 in
theorem refPick10 (f : Nat → Int) (op : Int) (A : Option Addr) (n c B : Nat) (w : World) (hn : n ≤ 9223372036854775807) (ha : Arr w B A n fun j => .int .i64 (f j)) :
    Calls Try.prog 10 #[.slice A n c, .int .i64 op] w fun e w' => e = .returned (.int .i64 (pk f op n)) ∧ ∃ m, w' = w.drewN m := by
  go_enter Try.func10, Try.ntmps10
  go_wp2
  go_loopw [5, 6] (fun b i wr => ∃ k : Nat, k ≤ n ∧ i = .int .i64 k ∧ b = .int .i64 (pk f op k) ∧ ∃ m, wr = w.drewN m) (fun _ i _ => n - (intOf i).toNat)
  case atStart => exact ⟨0, Nat.zero_le _, rfl, rfl, 0, rfl⟩
  case round =>
    obtain ⟨k, hk, rfl, rfl, m, rfl⟩ := hrel
    by_cases hlt : k < n
    · obtain ⟨b, off, rfl, hb, hc⟩ := ha (by omega)
      have hck := hc k hlt
      have hpk := pk_bd f op k
      by_cases h1 : 1 ≤ f k
      · by_cases h2 : (k : Int) = op
        · have e := pk_miss (f := f) (op := op) (k := k) (fun h => h.2.1 h2)
          have E := Lib.hid e
          have t2 : ((k : Int) != op) = false := by rw [h2]; simp
          clear e h2
          go_wp2
          refine wp_region_quiet_lit (by kernel_rfl) (by kernel_rfl) ?_
          repeat (any_goals (first | go_big_quiet_step (fail) | quiet_step (fail) | (refine wpQuiet_step (fun K hK => ?_); go_simp; split <;> (first | (exfalso; omega) | (refine hK _ ?_; clear hK K)))))
          all_goals (refine wpQuiet_nil ?_; intro _ hw'; obtain ⟨nq, hw''⟩ := hw'; subst hw'')
          all_goals go_wp2
          all_goals go_roundw
          case rel => exact ⟨k + 1, by omega, by go_num, by rw [E.out], _, rfl⟩
          case measure => simp [intOf]; omega
        · have t2 : ((k : Int) != op) = true := by simpa using h2
          have H2 := Lib.hid h2
          clear h2
          by_cases h3 : pk f op k < 0
          · have e := pk_hit h1 H2.out (.inl h3)
            have E := Lib.hid e
            clear e
            go_wp2
            refine wp_region_quiet_lit (by kernel_rfl) (by kernel_rfl) ?_
            repeat (any_goals (first | go_big_quiet_step (fail) | quiet_step (fail) | (refine wpQuiet_step (fun K hK => ?_); go_simp; split <;> (first | (exfalso; omega) | (refine hK _ ?_; clear hK K)))))
            all_goals (refine wpQuiet_nil ?_; intro _ hw'; obtain ⟨nq, hw''⟩ := hw'; subst hw'')
            all_goals go_wp2
            all_goals go_roundw
            case rel => exact ⟨k + 1, by omega, by go_num, by rw [E.out], _, rfl⟩
            case measure => simp [intOf]; omega
          · obtain ⟨q, hq⟩ : ∃ q : Nat, pk f op k = q := ⟨(pk f op k).toNat, by omega⟩
            have hcq := hc q (by omega)
            by_cases h4 : f k < f q
            · have e := pk_hit h1 H2.out (.inr (by rw [hq]; exact h4))
              have E := Lib.hid e
              rw [hq]
              clear e
              have h0 : (0 : Int) ≤ q ∧ (q : Int) < n := by omega
              clear hq h3 hpk
              go_wp2
              refine wp_region_quiet_lit (by kernel_rfl) (by kernel_rfl) ?_
              repeat (any_goals (first | go_big_quiet_step (fail) | quiet_step (fail) | (refine wpQuiet_step (fun K hK => ?_); go_simp; split <;> (first | (exfalso; omega) | (refine hK _ ?_; clear hK K)))))
              all_goals (refine wpQuiet_nil ?_; intro _ hw'; obtain ⟨nq, hw''⟩ := hw'; subst hw'')
              all_goals go_wp2
              all_goals go_roundw
              case rel => exact ⟨k + 1, by omega, by go_num, by rw [E.out], _, rfl⟩
              case measure => simp [intOf]; omega
            · have e := pk_miss (f := f) (op := op) (k := k) (fun h => by rcases h.2.2 with h | h; · omega
                                                                          · rw [hq] at h; exact h4 h)
              have E := Lib.hid e
              have Hq := Lib.hid hq
              rw [hq]
              clear e
              have h0 : (0 : Int) ≤ q ∧ (q : Int) < n := by omega
              clear hq h3 hpk
              go_wp2
              refine wp_region_quiet_lit (by kernel_rfl) (by kernel_rfl) ?_
              repeat (any_goals (first | go_big_quiet_step (fail) | quiet_step (fail) | (refine wpQuiet_step (fun K hK => ?_); go_simp; split <;> (first | (exfalso; omega) | (refine hK _ ?_; clear hK K)))))
              all_goals (refine wpQuiet_nil ?_; intro _ hw'; obtain ⟨nq, hw''⟩ := hw'; subst hw'')
              all_goals go_wp2
              all_goals go_roundw
              case rel => exact ⟨k + 1, by omega, by go_num, by rw [E.out, Hq.out], _, rfl⟩
              case measure => simp [intOf]; omega
      · have e := pk_miss (f := f) (op := op) (k := k) (fun h => h1 h.1)
        have E := Lib.hid e
        clear e
        go_wp2
        refine wp_region_quiet_lit (by kernel_rfl) (by kernel_rfl) ?_
        repeat (any_goals (first | go_big_quiet_step (fail) | quiet_step (fail) | (refine wpQuiet_step (fun K hK => ?_); go_simp; split <;> (first | (exfalso; omega) | (refine hK _ ?_; clear hK K)))))
        all_goals (refine wpQuiet_nil ?_; intro _ hw'; obtain ⟨nq, hw''⟩ := hw'; subst hw'')
        all_goals go_wp2
        all_goals go_roundw
        case rel => exact ⟨k + 1, by omega, by go_num, by rw [E.out], _, rfl⟩
        case measure => simp [intOf]; omega
    · obtain rfl : k = n := by omega
      go_wp2
      go_ret
      exact ⟨rfl, m, rfl⟩
/-- The places that may be picked among the first k, in order, each with how much is used. -/
def sel (f : Nat → Int) (op : Int) : Nat → List (Nat × Int)
  | 0 => []
  | k + 1 => if 1 ≤ f k ∧ (k : Int) ≠ op then sel f op k ++ [(k, f k)] else sel f op k
theorem sel_hit {f : Nat → Int} {op : Int} {k : Nat} (h1 : 1 ≤ f k) (h2 : (k : Int) ≠ op) : sel f op (k + 1) = sel f op k ++ [(k, f k)] := by
  conv => lhs; unfold sel
  rw [if_pos ⟨h1, h2⟩]
theorem sel_miss {f : Nat → Int} {op : Int} {k : Nat} (h : ¬ (1 ≤ f k ∧ (k : Int) ≠ op)) : sel f op (k + 1) = sel f op k := by
  conv => lhs; unfold sel
  rw [if_neg h]
theorem sel_le (f : Nat → Int) (op : Int) (k : Nat) : ∀ d : Nat, (sel f op k).length ≤ (sel f op (k + d)).length
  | 0 => Nat.le_refl _
  | d + 1 => by
    have := sel_le f op k d
    rw [← Nat.add_assoc]
    by_cases h : 1 ≤ f (k + d) ∧ ((k + d : Nat) : Int) ≠ op
    · rw [sel_hit h.1 h.2]; simp; omega
    · rw [sel_miss h]; exact this
theorem sel_lt {f : Nat → Int} {op : Int} {k n : Nat} (h1 : 1 ≤ f k) (h2 : (k : Int) ≠ op) (hk : k < n) : (sel f op k).length < (sel f op n).length := by
  have := sel_le f op (k + 1) (n - (k + 1))
  rw [show k + 1 + (n - (k + 1)) = n from by omega, sel_hit h1 h2] at this
  simp at this; omega
/-- What a round keeps: what lay below n₀, and the cell at the block Bo. -/
def Kb (n₀ Bo : Nat) (W W' : World) : Prop := Below n₀ W W' ∧ W'.cell? ⟨Bo, 0, none⟩ = W.cell? ⟨Bo, 0, none⟩
theorem Kb.trans {n₀ Bo : Nat} {A B C : World} (h : Kb n₀ Bo A B) (k : Kb n₀ Bo B C) : Kb n₀ Bo A C := ⟨h.1.trans k.1, k.2.trans h.2⟩
theorem Kb.base {n₀ Bo : Nat} {w : World} (hn : n₀ ≤ w.heap.size) (hb : Bo < w.heap.size) (W : World) (l : Nat) (o o' : Obj) (hl : w.heap.size ≤ l) (h : W.heap[l]? = some o) (hc : o.isCells = false) (hw : o.isWalk = false) : Kb n₀ Bo W (W.putObj l o') :=
  ⟨belowK_b hn W l o o' hl h hc hw, World.cell?_of_block ((grownBy_putObj' W l o').block Bo (by have := (Array.getElem?_eq_some_iff.1 h).1; omega) (by intro e; cases e; omega))⟩
set_option maxRecDepth 100000 in
set_option maxHeartbeats 2000000 in
/-- The iterator: it goes through the places that may be picked. -/
theorem may1_in (F : Fence) (N : Nat) (h17 : F.fn 17) (hro : F.round = none) (hN : 1 ≤ N) (l Bs Bo n₀ n cap : Nat) (A : Option Addr) (f : Nat → Int) (op : Int) (hn : n ≤ 9223372036854775807)
    (J Jx : List (Nat × Int) → World → Prop)
    (hY : ∀ pre x W, J pre W → pre.length < (sel f op n).length → YieldAt F (N - 1) Try.prog l #[.int .i64 (x.1 : Int), .int .i64 x.2] W fun e W' =>
      (e = .returned (.bool true) ∧ J (pre ++ [x]) W' ∧ Kb n₀ Bo W W') ∨ (e = .returned (.bool false) ∧ Jx (pre ++ [x]) W'))
    (W : World) (hBs : W.cell? ⟨Bs, 0, none⟩ = some (.slice A n cap)) (hBo : W.cell? ⟨Bo, 0, none⟩ = some (.int .i64 op)) (ha : Arr W n₀ A n fun j => .int .i64 (f j)) (h0 : J [] W) :
    CallsIn F N Try.prog 17 #[.func (.yield l) #[] #[], .pointer (some ⟨Bs, 0, none⟩), .pointer (some ⟨Bo, 0, none⟩)] W fun e W' => (∃ v, e = .returned v) ∧
      ((∃ ys, ys = sel f op n ∧ J ys W') ∨ (∃ pre, True ∧ Jx pre W')) := by
  refine callsIn_of_wp Try.func17 rfl h17 ?_ hro
  simp only [Try.ntmps17, List.size_toArray, List.length_cons, List.length_nil, Nat.reduceAdd, Nat.reduceSub, Array.replicate_succ, Array.replicate_zero, List.push_toArray, List.append_toArray, List.nil_append, List.cons_append]
  gi_wp2
  gi_loopw [8] (fun i wr => ∃ k : Nat, k ≤ n ∧ i = .int .i64 k ∧ J (sel f op k) wr ∧ Kb n₀ Bo W wr)
    (fun i _ => n - (intOf i).toNat)
  case atStart => exact ⟨0, Nat.zero_le _, rfl, h0, Below.refl _ _, rfl⟩
  case round =>
    obtain ⟨k, hk, rfl, hJs, hnx⟩ := hrel
    by_cases hlt : k < n
    · obtain ⟨b, off, rfl, hb, hc⟩ := ha (by omega)
      have hck : wr.cell? ⟨b, off + k, none⟩ = some (.int .i64 (f k)) := (hnx.1.cell (p := ⟨b, off + k, none⟩) hb).trans (hc k hlt)
      have hco : wr.cell? ⟨Bo, 0, none⟩ = some (.int .i64 op) := hnx.2.trans hBo
      by_cases h1 : 1 ≤ f k
      · by_cases h2 : (k : Int) = op
        · have t2 : ((k : Int) != op) = false := by rw [h2]; simp
          have E := Lib.hid (sel_miss (f := f) (op := op) (k := k) (fun h => h.2 h2))
          clear h2
          gi_wp2
          refine ⟨fun _ h => (by cases h), ?_⟩
          gi_wp2
          go_roundw
          case rel => exact ⟨k + 1, by omega, by go_num, by rw [E.out]; exact hJs, hnx⟩
          case measure => simp [intOf]; omega
        · have t2 : ((k : Int) != op) = true := by simpa using h2
          obtain ⟨fn, tmps, assign, body, hy, hR⟩ := hY _ (k, f k) wr hJs (sel_lt h1 h2 hlt)
          have E := Lib.hid (sel_hit h1 h2)
          clear h2
          dsimp only at hy
          gi_wp2
          refine hR.mono ?_
          rintro e W3 (⟨rfl, hJ3, hk3⟩ | ⟨rfl, hJx3⟩)
          · gi_wp2
            go_roundw
            case rel => exact ⟨k + 1, by omega, by go_num, by rw [E.out]; exact hJ3, hnx.trans hk3⟩
            case measure => simp [intOf]; omega
          · gi_wp2
            refine bodyPost_ret (results_none rfl _ _ _) rfl ?_
            exact ⟨⟨_, rfl⟩, .inr ⟨_, trivial, hJx3⟩⟩
      · have t1 : decide (1 ≤ f k) = false := by simpa using h1
        have E := Lib.hid (sel_miss (f := f) (op := op) (k := k) (fun h => h1 h.1))
        gi_wp2
        refine ⟨fun _ h => (by cases h), ?_⟩
        gi_wp2
        go_roundw
        case rel => exact ⟨k + 1, by omega, by go_num, by rw [E.out]; exact hJs, hnx⟩
        case measure => simp [intOf]; omega
    · obtain rfl : k = n := by omega
      gi_wp2
      go_end0
      exact ⟨⟨_, rfl⟩, .inl ⟨_, rfl, hJs⟩⟩
set_option maxHeartbeats 1000000 in
theorem may_in (F : Fence) (N : Nat) (h16 : F.fn 16) (hro : F.round = none) (A : Option Addr) (n cap : Nat) (op : Int) (w : World) :
    CallsIn F N Try.prog 16 #[.slice A n cap, .int .i64 op] w fun e w' => e = .returned (.func (.func 17) #[] #[.pointer (some ⟨w.heap.size, 0, none⟩), .pointer (some ⟨w.heap.size + 1, 0, none⟩)]) ∧ w' = (w.alloc (.cells #[.slice A n cap] 22)).alloc (.cells #[.int .i64 op] 3) := by
  refine callsIn_of_wp Try.func16 rfl h16 ?_ hro
  simp only [Try.ntmps16, List.size_toArray, List.length_cons, List.length_nil, Nat.reduceAdd, Nat.reduceSub, Array.replicate_succ, Array.replicate_zero, List.push_toArray, List.append_toArray, List.nil_append, List.cons_append]
  gi_wp2
  go_ret
  exact ⟨rfl, rfl⟩

end Go.Proofs.Ytnebpcoegomoeaa
