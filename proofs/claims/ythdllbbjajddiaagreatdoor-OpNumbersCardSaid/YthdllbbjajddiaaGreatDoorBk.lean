/- The law OpWhole of layer 25 (op): it returns true at every input. -/
import Derived.Test.YthdllbbjajddiaaGreatDoorAw
import Derived.Test.YthdllbbjajddiaaGreatDoorApp
set_option linter.all false
namespace Go.Proofs.YthdllbbjajddiaaGreatDoor
open Go.RowKit Go.Maps Go.WideMaps
theorem arr_congr {w : World} {B : Nat} {A : Option Addr} {n : Nat} {f g : Nat → Value} (h : Arr w B A n f) (e : ∀ j, j < n → f j = g j) : Arr w B A n g := fun hn => by
  obtain ⟨b, off, e1, hlt, hc⟩ := h hn
  exact ⟨b, off, e1, hlt, fun j hj => e j hj ▸ hc j hj⟩
def lF (f : Nat → Int) (n : Nat) : List Int := (List.range n).map f
theorem lF_len (f : Nat → Int) (n : Nat) : (lF f n).length = n := by simp [lF]
theorem lF_at {f : Nat → Int} {n j : Nat} (h : j < n) : (lF f n).getD j 0 = f j := by
  rw [lF, List.getD_eq_getElem?_getD, List.getElem?_map, List.getElem?_range h]; rfl
theorem lF_byt {f : Nat → Int} {n : Nat} (h : ∀ i, i < n → 0 ≤ f i ∧ f i < 256) : Byt (lF f n) := fun x hx => by
  obtain ⟨i, hi, rfl⟩ := List.mem_map.1 hx
  exact h i (List.mem_range.1 hi)
/-- An op's rows are whole: it is what it is made of. -/
theorem op_is {o : OpR} {D1 : Array ElF} {D2 : Array ElP} (h1 : D1.toList.map Subtype.val = o.news) (h2 : D2.toList.map Subtype.val = o.puts) : opR o.kd o.at_ o.n o.sn (fun i => D1[i]!) D1.size (fun i => D2[i]!) D2.size = o := by
  unfold opR
  rw [nl_arr, pl_arr, h1, h2]
end Go.Proofs.YthdllbbjajddiaaGreatDoor
namespace Go.Proofs.YthdllbbjajddiaaGreatDoor
open Go.RowKit Go.Maps Go.WideMaps
theorem byt_app {a b : List Int} (ha : Byt a) (hb : Byt b) : Byt (a ++ b) := fun x hx => (List.mem_append.1 hx).elim (ha x) (hb x)
theorem byt_flat {α : Type} {e : α → List Int} {l : List α} (h : ∀ x ∈ l, Byt (e x)) : Byt (l.flatMap e) := fun y hy => by
  obtain ⟨x, hx, hy⟩ := List.mem_flatMap.1 hy
  exact h x hx y hy
theorem byt_row {α : Type} {e : α → List Int} {l : List α} (h : ∀ x ∈ l, Byt (e x)) : Byt (encRow e l) := byt_app (be_byt _ _) (byt_flat h)
theorem encF_byt (f : ElF) : Byt (encF f.1) := byt_app f.2.key.lo (byt_app (be_byt _ _) (byt_app (be_byt _ _) (be_byt _ _)))
theorem encP_byt (p : ElP) : Byt (encP p.1) := byt_app (be_byt _ _) (byt_app p.2.key.lo (byt_app (be_byt _ _) (be_byt _ _)))
theorem enc_byt (kd x n s : Int) (I : Nat → ElF) (n1 : Nat) (P : Nat → ElP) (n2 : Nat) : Byt (enc (opR kd x n s I n1 P n2)) := by
  have h1 : ∀ f ∈ nl I n1, Byt (encF f) := fun f hf => by
    obtain ⟨i, _, rfl⟩ := List.mem_map.1 hf
    exact encF_byt _
  have h2 : ∀ f ∈ pl P n2, Byt (encP f) := fun f hf => by
    obtain ⟨i, _, rfl⟩ := List.mem_map.1 hf
    exact encP_byt _
  unfold enc
  refine byt_app (be_byt _ _) ?_
  split
  · exact byt_app (byt_row h1) (byt_row h2)
  · split
    · exact byt_app (be_byt _ _) (be_byt _ _)
    · exact be_byt _ _
theorem sameD1 {D : Array ElF} {I : Nat → ElF} {n : Nat} (e : D.toList.map Subtype.val = nl I n) : D.size = n ∧ ∀ i, i < n → D[i]! = I i := by
  have hl := congrArg List.length e
  simp [nl] at hl
  refine ⟨hl, fun i hi => ?_⟩
  have := congrArg (·[i]?) e
  simp only [nl, List.getElem?_map, List.getElem?_range hi, Option.map_some, Array.getElem?_toList] at this
  rw [Array.getElem?_eq_getElem (by omega)] at this
  rw [getElem!_pos D i (by omega)]
  exact Subtype.ext (by simpa using this)
theorem sameD2 {D : Array ElP} {I : Nat → ElP} {n : Nat} (e : D.toList.map Subtype.val = pl I n) : D.size = n ∧ ∀ i, i < n → D[i]! = I i := by
  have hl := congrArg List.length e
  simp [pl] at hl
  refine ⟨hl, fun i hi => ?_⟩
  have := congrArg (·[i]?) e
  simp only [pl, List.getElem?_map, List.getElem?_range hi, Option.map_some, Array.getElem?_toList] at this
  rw [Array.getElem?_eq_getElem (by omega)] at this
  rw [getElem!_pos D i (by omega)]
  exact Subtype.ext (by simpa using this)
def GotOp (w : World) (I : Nat → ElF) (P : Nat → ElP) (kd x n s : Int) (n1 n2 : Nat) (e : Ending) (w' : World) : Prop :=
  ∃ A1 c1 A2 c2, e = .returned (.tuple #[opV kd x n s A1 n1 c1 A2 n2 c2, .int .i64 0]) ∧ SArr w' w'.heap.size A1 n1 36 (fun i => cellsF (I i)) ∧ SArr w' w'.heap.size A2 n2 35 (fun i => cellsP (P i)) ∧ Below w.heap.size w w'
theorem get_yes (I : Nat → ElF) (P : Nat → ElP) (kd x n s : Int) (n1 n2 : Nat) (A : Option Addr) (N c : Nat) (w : World) (hr : rightB (opR kd x n s I n1 P n2) = true) (l : List Int) (hl : enc (opR kd x n s I n1 P n2) = l) (hN : l.length = N) (hN2 : N ≤ 1099511627776) (hnc : N ≤ c)
    (ha : Arr w w.heap.size A N fun j => .int .u8 (l.getD j 0)) :
    Calls Tryz.prog 13 #[.slice A N c] w (GotOp w I P kd x n s n1 n2) := by
  refine (get19 l A N c w hN hN2 hnc (hl ▸ enc_byt _ _ _ _ _ _ _ _) ha).mono ?_
  have hd : dec l = some (opR kd x n s I n1 P n2) := by rw [← hl]; exact dec_enc hr ⟨nl_ko I n1, pl_ko P n2⟩
  rintro e w' ⟨hb, ⟨h1, -⟩ | ⟨o, D1, A1, d1, D2, A2, d2, h1, rfl, e1, e2, f1, f2, o1, o2⟩⟩
  · rw [hd] at h1; cases h1
  · rw [hd] at h1
    injection h1 with h1
    subst h1
    obtain ⟨s1, g1⟩ := sameD1 (I := I) (n := n1) e1
    obtain ⟨s2, g2⟩ := sameD2 (I := P) (n := n2) e2
    obtain ⟨_, _, q1, r1, -⟩ := srow_arr (wideF fun i => D1[i]!) o1
    cases q1
    obtain ⟨_, _, q1, r2, -⟩ := srow_arr (wideP fun i => D2[i]!) o2
    cases q1
    rw [s1] at r1
    rw [s2] at r2
    rw [s1, s2]
    exact ⟨A1, d1, A2, d2, rfl, r1.congr fun j hj => by rw [g1 j hj], r2.congr fun j hj => by rw [g2 j hj], hb⟩
theorem get_no (l : List Int) (A : Option Addr) (n c : Nat) (w : World) (hn : l.length = n) (hn2 : n ≤ 1099511627776) (hnc : n ≤ c) (hb : Byt l) (ha : Arr w w.heap.size A n fun j => .int .u8 (l.getD j 0)) (hd : dec l = none) :
    Calls Tryz.prog 13 #[.slice A n c] w fun e w' => e = .returned (.tuple #[.agg zOp.toArray, .int .i64 4]) ∧ Below w.heap.size w w' := by
  refine (get19 l A n c w hn hn2 hnc hb ha).mono ?_
  rintro e w' ⟨hb, ⟨-, h1⟩ | ⟨o, D1, A1, d1, D2, A2, d2, h1, -⟩⟩
  · exact ⟨h1, hb⟩
  · rw [hd] at h1; cases h1
theorem arr_news {w : World} {B : Nat} {A : Option Addr} {n : Nat} {l : List Int} (ha : Arr w B A n fun j => .int .u8 (l.getD j 0)) (hn : l.length = n) (ad : Addr) (e : A = some ad) : ∀ j u, (u8l l)[j]? = some u → w.cell? (ad.add j) = some u := by
  intro j u hu
  obtain ⟨hj, rfl⟩ := u8l_at _ _ _ hu
  obtain ⟨b, off, e1, _, hc⟩ := ha (by omega)
  rw [e] at e1
  cases e1
  rw [Go.WideShapes.add_plain]
  exact hc j (by omega)
set_option maxRecDepth 100000 in
set_option maxHeartbeats 2000000 in
theorem copy25 (l : List Int) (A : Option Addr) (n c : Nat) (w : World) (hn : l.length = n) (hn2 : n ≤ 1099511627776) (ha : Arr w w.heap.size A n fun j => .int .u8 (l.getD j 0)) (hz : A = none → n = 0 ∧ c = 0) :
    Calls Tryz.prog 8 #[.slice A n c] w fun e w' => ∃ v, e = .returned v ∧ w'.ownsRow w.heap.size 5 1 v n (u8l l) ∧ Below w.heap.size w w' := by
  obtain ⟨i0, hi, hz0, hz1, hz2⟩ := infoParts info5
  have HI := Lib.hid (And.intro hi (And.intro hz0 (And.intro hz1 hz2)))
  have HN := Lib.hid (arr_news ha hn)
  have HZ := Lib.hid hz
  have HL : Hid ((u8l l).length = n * 1) := Lib.hid (by rw [u8l_len, hn, Nat.mul_one])
  have HO := Lib.hid (u8l_one l)
  have HM : Hid (0 + n ≤ maxLen) := Lib.hid (by unfold maxLen; omega)
  have HM2 : Hid ((0 + n) * 1 ≤ 140737488355328) := Lib.hid (by omega)
  have OW : Hid (w.ownsRow w.heap.size 5 1 (.slice none 0 0) 0 []) := Lib.hid (World.ownsRow_nil _ _ _ _)
  clear hi hz0 hz1 hz2 ha hz hn
  go_enter Tryz.func8, Tryz.ntmps8
  go_wp2_with (refine wpList_append_any rfl (.tmp 4) (.tmp 5) 30 rfl w.heap.size 5 i0 (.int .u8 0) 1 1 Tryz.underlying30 HI.out.1 HI.out.2.1 HI.out.2.2.1 HI.out.2.2.2 rfl (by decide) (.slice none 0 0) 0 [] rfl OW.out A n c (u8l l) rfl HZ.out HL.out HN.out HO.out HM.out HM2.out (Nat.le_refl _) ?_; intro v5 w5 ho5 hg5)
  rw [Nat.zero_add, List.nil_append] at ho5
  have B5 := Lib.hid ((Below.refl w.heap.size w).grown hg5 (Nat.le_refl _) (fun k e => by cases e))
  have O5 := Lib.hid ho5
  clear hg5 ho5
  go_ret
  exact ⟨v5, rfl, O5.out, B5.out⟩
end Go.Proofs.YthdllbbjajddiaaGreatDoor
