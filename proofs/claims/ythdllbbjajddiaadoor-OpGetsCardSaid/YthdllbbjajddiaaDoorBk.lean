/- Layer 25 (op): what the law OpBack asks: few parts, a copy of bytes, an op got as it was put. -/
import Derived.Test.YthdllbbjajddiaaDoorWh
import Derived.Test.YthdllbbjajddiaaDoorApp
namespace Go.Proofs.YthdllbbjajddiaaDoor
open Go.RowKit Go.Maps Go.WideMaps
theorem byt_app {a b : List Int} (ha : Byt a) (hb : Byt b) : Byt (a ++ b) := fun x hx => (List.mem_append.1 hx).elim (ha x) (hb x)
theorem byt_flat {α : Type} {e : α → List Int} {l : List α} (h : ∀ x ∈ l, Byt (e x)) : Byt (l.flatMap e) := fun y hy => by
  obtain ⟨x, hx, hy⟩ := List.mem_flatMap.1 hy
  exact h x hx y hy
theorem byt_row {α : Type} {e : α → List Int} {l : List α} (h : ∀ x ∈ l, Byt (e x)) : Byt (encRow e l) := byt_app (be_byt _ _) (byt_flat h)
theorem encF_byt (f : ElF) : Byt (encF f.1) := byt_app f.2.key.lo (byt_app (be_byt _ _) (byt_app (be_byt _ _) (be_byt _ _)))
theorem encP_byt (p : ElP) : Byt (encP p.1) := byt_app (be_byt _ _) (byt_app p.2.key.lo (byt_app (be_byt _ _) (be_byt _ _)))
theorem enc_byt (kd x n s : Int) (I : Nat → ElF) (n1 : Nat) (P : Nat → ElP) (n2 : Nat) : Byt (enc (opR kd x n s I n1 P n2)) := by
  have h1 : ∀ f ∈ nl I n1, Byt (encF f) := fun f hf => by
    obtain ⟨i, _, rfl⟩ := List.mem_map.1 hf
    exact encF_byt _
  have h2 : ∀ f ∈ pl P n2, Byt (encP f) := fun f hf => by
    obtain ⟨i, _, rfl⟩ := List.mem_map.1 hf
    exact encP_byt _
  unfold enc
  refine byt_app (be_byt _ _) ?_
  split
  · exact byt_app (byt_row h1) (byt_row h2)
  · split
    · exact byt_app (be_byt _ _) (be_byt _ _)
    · exact be_byt _ _
theorem sameD1 {D : Array ElF} {I : Nat → ElF} {n : Nat} (e : D.toList.map Subtype.val = nl I n) : D.size = n ∧ ∀ i, i < n → D[i]! = I i := by
  have hl := congrArg List.length e
  simp [nl] at hl
  refine ⟨hl, fun i hi => ?_⟩
  have := congrArg (·[i]?) e
  simp only [nl, List.getElem?_map, List.getElem?_range hi, Option.map_some, Array.getElem?_toList] at this
  rw [Array.getElem?_eq_getElem (by omega)] at this
  rw [getElem!_pos D i (by omega)]
  exact Subtype.ext (by simpa using this)
theorem sameD2 {D : Array ElP} {I : Nat → ElP} {n : Nat} (e : D.toList.map Subtype.val = pl I n) : D.size = n ∧ ∀ i, i < n → D[i]! = I i := by
  have hl := congrArg List.length e
  simp [pl] at hl
  refine ⟨hl, fun i hi => ?_⟩
  have := congrArg (·[i]?) e
  simp only [pl, List.getElem?_map, List.getElem?_range hi, Option.map_some, Array.getElem?_toList] at this
  rw [Array.getElem?_eq_getElem (by omega)] at this
  rw [getElem!_pos D i (by omega)]
  exact Subtype.ext (by simpa using this)
def GotOp (w : World) (I : Nat → ElF) (P : Nat → ElP) (kd x n s : Int) (n1 n2 : Nat) (e : Ending) (w' : World) : Prop :=
  ∃ A1 c1 A2 c2, e = .returned (.tuple #[opV kd x n s A1 n1 c1 A2 n2 c2, .int .i64 0]) ∧ SArr w' w'.heap.size A1 n1 36 (fun i => cellsF (I i)) ∧ SArr w' w'.heap.size A2 n2 35 (fun i => cellsP (P i)) ∧ Below w.heap.size w w'
theorem get_yes (I : Nat → ElF) (P : Nat → ElP) (kd x n s : Int) (n1 n2 : Nat) (A : Option Addr) (N c : Nat) (w : World) (hr : rightB (opR kd x n s I n1 P n2) = true) (l : List Int) (hl : enc (opR kd x n s I n1 P n2) = l) (hN : l.length = N) (hN2 : N ≤ 1099511627776) (hnc : N ≤ c)
    (ha : Arr w w.heap.size A N fun j => .int .u8 (l.getD j 0)) :
    Calls Tryd.prog 19 #[.slice A N c] w (GotOp w I P kd x n s n1 n2) := by
  refine (get19 l A N c w hN hN2 hnc (hl ▸ enc_byt _ _ _ _ _ _ _ _) ha).mono ?_
  have hd : dec l = some (opR kd x n s I n1 P n2) := by rw [← hl]; exact dec_enc hr ⟨nl_ko I n1, pl_ko P n2⟩
  rintro e w' ⟨hb, ⟨h1, -⟩ | ⟨o, D1, A1, d1, D2, A2, d2, h1, rfl, e1, e2, f1, f2, o1, o2⟩⟩
  · rw [hd] at h1; cases h1
  · rw [hd] at h1
    injection h1 with h1
    subst h1
    obtain ⟨s1, g1⟩ := sameD1 (I := I) (n := n1) e1
    obtain ⟨s2, g2⟩ := sameD2 (I := P) (n := n2) e2
    obtain ⟨_, _, q1, r1, -⟩ := srow_arr (wideF fun i => D1[i]!) o1
    cases q1
    obtain ⟨_, _, q1, r2, -⟩ := srow_arr (wideP fun i => D2[i]!) o2
    cases q1
    rw [s1] at r1
    rw [s2] at r2
    rw [s1, s2]
    exact ⟨A1, d1, A2, d2, rfl, r1.congr fun j hj => by rw [g1 j hj], r2.congr fun j hj => by rw [g2 j hj], hb⟩
theorem get_no (l : List Int) (A : Option Addr) (n c : Nat) (w : World) (hn : l.length = n) (hn2 : n ≤ 1099511627776) (hnc : n ≤ c) (hb : Byt l) (ha : Arr w w.heap.size A n fun j => .int .u8 (l.getD j 0)) (hd : dec l = none) :
    Calls Tryd.prog 19 #[.slice A n c] w fun e w' => e = .returned (.tuple #[.agg zOp.toArray, .int .i64 4]) ∧ Below w.heap.size w w' := by
  refine (get19 l A n c w hn hn2 hnc hb ha).mono ?_
  rintro e w' ⟨hb, ⟨-, h1⟩ | ⟨o, D1, A1, d1, D2, A2, d2, h1, -⟩⟩
  · exact ⟨h1, hb⟩
  · rw [hd] at h1; cases h1
theorem arr_news {w : World} {B : Nat} {A : Option Addr} {n : Nat} {l : List Int} (ha : Arr w B A n fun j => .int .u8 (l.getD j 0)) (hn : l.length = n) (ad : Addr) (e : A = some ad) : ∀ j u, (u8l l)[j]? = some u → w.cell? (ad.add j) = some u := by
  intro j u hu
  obtain ⟨hj, rfl⟩ := u8l_at _ _ _ hu
  obtain ⟨b, off, e1, _, hc⟩ := ha (by omega)
  rw [e] at e1
  cases e1
  rw [Go.WideShapes.add_plain]
  exact hc j (by omega)
set_option maxRecDepth 100000 in
set_option maxHeartbeats 2000000 in
theorem great7 (kd x n s : Int) (A1 : Option Addr) (n1 c1 : Nat) (A2 : Option Addr) (n2 c2 : Nat) (W : World) (h1 : n1 ≤ 140737488355328) (h2 : n2 ≤ 140737488355328) :
    Calls Tryd.prog 7 #[opV kd x n s A1 n1 c1 A2 n2 c2] W fun e W' => e = .returned (.bool (decide ((500 : Int) < n1 + n2))) ∧ Below W.heap.size W W' := by
  unfold opV
  go_enter Tryd.func7, Tryd.ntmps7
  go_upto_region 1 with fail
  obtain ⟨w1, hw1⟩ : ∃ w1, w1 = W.alloc (.cells #[.int .u8 kd, .int .i64 x, .int .i64 n, .int .i64 s, .slice A1 n1 c1, .slice A2 n2 c2] 26) := ⟨_, rfl⟩
  have Q1 : Hid (w1.heap[W.heap.size]? = some (.cells #[.int .u8 kd, .int .i64 x, .int .i64 n, .int .i64 s, .slice A1 n1 c1, .slice A2 n2 c2] 26 (0, 0))) := Lib.hid (by rw [hw1]; exact heap_new W _)
  have B1 : Hid (Below W.heap.size W w1) := Lib.hid (by rw [hw1]; exact (Below.refl _ _).alloc (Nat.le_refl _) _)
  rw [← hw1]
  obtain ⟨q0, hq0⟩ : ∃ q, q = W.heap.size := ⟨_, rfl⟩
  rw [← hq0] at Q1 ⊢
  have c4 : w1.cell? ⟨q0, 4, none⟩ = some (.slice A1 n1 c1) := block_cell Q1.out 4 _ rfl
  have c5 : w1.cell? ⟨q0, 5, none⟩ = some (.slice A2 n2 c2) := block_cell Q1.out 5 _ rfl
  have hwr : IntKind.i64.wrap ((n1 : Int) + n2) = (n1 : Int) + n2 := IntWalk.i64_in _ (by omega)
  have HQ := Lib.hid hq0
  clear hw1 hq0
  go_wp2_with fail
  go_ret
  exact ⟨rfl, B1.out⟩
set_option maxRecDepth 100000 in
set_option maxHeartbeats 2000000 in
theorem copy25 (l : List Int) (A : Option Addr) (n c : Nat) (w : World) (hn : l.length = n) (hn2 : n ≤ 1099511627776) (ha : Arr w w.heap.size A n fun j => .int .u8 (l.getD j 0)) (hz : A = none → n = 0 ∧ c = 0) :
    Calls Tryd.prog 25 #[.slice A n c] w fun e w' => ∃ v, e = .returned v ∧ w'.ownsRow w.heap.size 5 1 v n (u8l l) ∧ Below w.heap.size w w' := by
  obtain ⟨i0, hi, hz0, hz1, hz2⟩ := infoParts info5
  have HI := Lib.hid (And.intro hi (And.intro hz0 (And.intro hz1 hz2)))
  have HN := Lib.hid (arr_news ha hn)
  have HZ := Lib.hid hz
  have HL : Hid ((u8l l).length = n * 1) := Lib.hid (by rw [u8l_len, hn, Nat.mul_one])
  have HO := Lib.hid (u8l_one l)
  have HM : Hid (0 + n ≤ maxLen) := Lib.hid (by unfold maxLen; omega)
  have HM2 : Hid ((0 + n) * 1 ≤ 140737488355328) := Lib.hid (by omega)
  have OW : Hid (w.ownsRow w.heap.size 5 1 (.slice none 0 0) 0 []) := Lib.hid (World.ownsRow_nil _ _ _ _)
  clear hi hz0 hz1 hz2 ha hz hn
  go_enter Tryd.func25, Tryd.ntmps25
  go_wp2_with (refine wpList_append_any rfl (.tmp 4) (.tmp 5) 30 rfl w.heap.size 5 i0 (.int .u8 0) 1 1 Tryd.underlying30 HI.out.1 HI.out.2.1 HI.out.2.2.1 HI.out.2.2.2 rfl (by decide) (.slice none 0 0) 0 [] rfl OW.out A n c (u8l l) rfl HZ.out HL.out HN.out HO.out HM.out HM2.out (Nat.le_refl _) ?_; intro v5 w5 ho5 hg5)
  rw [Nat.zero_add, List.nil_append] at ho5
  have B5 := Lib.hid ((Below.refl w.heap.size w).grown hg5 (Nat.le_refl _) (fun k e => by cases e))
  have O5 := Lib.hid ho5
  clear hg5 ho5
  go_ret
  exact ⟨v5, rfl, O5.out, B5.out⟩
end Go.Proofs.YthdllbbjajddiaaDoor
