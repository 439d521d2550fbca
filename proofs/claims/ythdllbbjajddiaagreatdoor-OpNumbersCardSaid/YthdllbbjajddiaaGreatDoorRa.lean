/- Layer 25 (op): the document's side: a number within bounds, places, slices, numbers as bytes, what bytes say. -/
import Derived.Test.YthdllbbjajddiaaGreatDoorGa
import Derived.Test.YthdllbbjajddiaaGreatDoorApp
import Derived.Test.YthdllbbjajddiaaGreatDoorBu
import Derived.Great.Ranges
set_option linter.all false
namespace Go.Proofs.YthdllbbjajddiaaGreatDoor
open Go.RowKit Go.Maps Go.WideMaps
theorem rwithin (n a b : Int) (w : World) : Calls Tryz.prog 77 #[.int .i64 n, .int .i64 a, .int .i64 b] w fun e w' => e = .returned (.bool (decide (a ≤ n ∧ n ≤ b))) ∧ w = w' := by
  by_cases h1 : a ≤ n
  · by_cases h2 : n ≤ b
    · go_enter Tryz.func77, Tryz.ntmps77
      go_wp2
      go_ret
      exact ⟨by simp [h1, h2], rfl⟩
    · have d2 : decide (n ≤ b) = false := by simpa using h2
      go_enter Tryz.func77, Tryz.ntmps77
      go_wp2
      go_ret
      exact ⟨by simp [h2], rfl⟩
  · have d1 : decide (a ≤ n) = false := by simpa using h1
    go_enter Tryz.func77, Tryz.ntmps77
    go_wp2
    go_ret
    exact ⟨by first | rfl | (rw [show decide (a ≤ n ∧ n ≤ b) = false from decide_eq_false (by omega)]; rfl), rfl⟩
theorem rwithinT (n a b : Int) (w : World) (h : a ≤ n ∧ n ≤ b) : Calls Tryz.prog 77 #[.int .i64 n, .int .i64 a, .int .i64 b] w fun e w' => e = .returned (.bool true) ∧ w = w' := by
  have := rwithin n a b w
  rwa [decide_eq_true h] at this
theorem rwithinF (n a b : Int) (w : World) (h : ¬ (a ≤ n ∧ n ≤ b)) : Calls Tryz.prog 77 #[.int .i64 n, .int .i64 a, .int .i64 b] w fun e w' => e = .returned (.bool false) ∧ w = w' := by
  have := rwithin n a b w
  rwa [decide_eq_false h] at this
/-- Is a fresh place right? -/
def plB (a n u r : Int) : Bool := decide (0 ≤ a ∧ a ≤ 262144) && decide (1 ≤ n ∧ n ≤ 1024) && decide (1 ≤ u ∧ u ≤ 16) && decide (r = 0)
theorem fr_pl (f : Fr) : frB f = plB f.a f.n f.u f.r := rfl
set_option maxRecDepth 100000 in
theorem place56 (a n u r : Int) (W : World) : Calls Tryz.prog 47 #[.agg #[.int .i64 a, .int .i64 n, .int .i64 u, .int .i64 r], .bool false] W fun e W' => e = .returned (.bool (plB a n u r)) ∧ Below W.heap.size W W' := by
  obtain ⟨R, hR⟩ : ∃ R, R = plB a n u r := ⟨_, rfl⟩
  rw [← hR]
  unfold plB at hR
  go_enter Tryz.func47, Tryz.ntmps47
  go_upto_region 1 with fail
  obtain ⟨w1, hw1⟩ : ∃ w1, w1 = W.alloc (.cells #[.int .i64 a, .int .i64 n, .int .i64 u, .int .i64 r] 51) := ⟨_, rfl⟩
  have B1 : Hid (Below W.heap.size W w1) := Lib.hid (by rw [hw1]; exact (Below.refl _ _).alloc (Nat.le_refl _) _)
  have Q1 : Hid (w1.heap[W.heap.size]? = some (.cells #[.int .i64 a, .int .i64 n, .int .i64 u, .int .i64 r] 51 (0, 0))) := Lib.hid (by rw [hw1]; exact heap_new W _)
  rw [← hw1]
  obtain ⟨q, hq⟩ : ∃ q, q = W.heap.size := ⟨_, rfl⟩
  rw [← hq] at Q1 ⊢
  have c0 : w1.cell? ⟨q, 0, none⟩ = some (.int .i64 a) := block_cell Q1.out 0 _ rfl
  have c1 : w1.cell? ⟨q, 1, none⟩ = some (.int .i64 n) := block_cell Q1.out 1 _ rfl
  have c2 : w1.cell? ⟨q, 2, none⟩ = some (.int .i64 u) := block_cell Q1.out 2 _ rfl
  have c3 : w1.cell? ⟨q, 3, none⟩ = some (.int .i64 r) := block_cell Q1.out 3 _ rfl
  clear hw1 hq Q1
  by_cases ha : 0 ≤ a ∧ a ≤ 262144
  rotate_left
  · have HR : Hid (false = R) := Lib.hid (by rw [hR]; simp only [decide_eq_false ha, Bool.and_false, Bool.false_and])
    have HF := Lib.hid ha
    clear hR  ha
    go_wp2_with fail
    refine (rwithinF a 0 262144 w1 HF.out).mono ?_
    rintro e _ ⟨rfl, rfl⟩
    go_wp2_with fail
    go_ret
    exact ⟨ret_bool HR.out, B1.out⟩
  have Hha := Lib.hid ha
  by_cases hn : 1 ≤ n ∧ n ≤ 1024
  rotate_left
  · have HR : Hid (false = R) := Lib.hid (by rw [hR]; simp only [decide_eq_false hn, Bool.and_false, Bool.false_and])
    have HF := Lib.hid hn
    clear hR ha hn
    go_wp2_with fail
    refine (rwithinT a 0 262144 w1 Hha.out).mono ?_
    rintro e _ ⟨rfl, rfl⟩
    go_wp2_with fail
    refine (rwithinF n 1 1024 w1 HF.out).mono ?_
    rintro e _ ⟨rfl, rfl⟩
    go_wp2_with fail
    go_ret
    exact ⟨ret_bool HR.out, B1.out⟩
  have Hhn := Lib.hid hn
  by_cases hu : 1 ≤ u ∧ u ≤ 16
  rotate_left
  · have HR : Hid (false = R) := Lib.hid (by rw [hR]; simp only [decide_eq_false hu, Bool.and_false, Bool.false_and])
    have HF := Lib.hid hu
    clear hR ha hn hu
    go_wp2_with fail
    refine (rwithinT a 0 262144 w1 Hha.out).mono ?_
    rintro e _ ⟨rfl, rfl⟩
    go_wp2_with fail
    refine (rwithinT n 1 1024 w1 Hhn.out).mono ?_
    rintro e _ ⟨rfl, rfl⟩
    go_wp2_with fail
    refine (rwithinF u 1 16 w1 HF.out).mono ?_
    rintro e _ ⟨rfl, rfl⟩
    go_wp2_with fail
    go_ret
    exact ⟨ret_bool HR.out, B1.out⟩
  have Hhu := Lib.hid hu
  by_cases hr : r = 0
  · have HR : Hid (true = R) := Lib.hid (by rw [hR]; simp only [decide_eq_true ha, decide_eq_true hn, decide_eq_true hu, decide_eq_true hr, Bool.and_true])
    have z1 : (r == 0) = true := by simpa using hr
    clear hR ha hn hu hr
    go_wp2_with fail
    refine (rwithinT a 0 262144 w1 Hha.out).mono ?_
    rintro e _ ⟨rfl, rfl⟩
    go_wp2_with fail
    refine (rwithinT n 1 1024 w1 Hhn.out).mono ?_
    rintro e _ ⟨rfl, rfl⟩
    go_wp2_with fail
    refine (rwithinT u 1 16 w1 Hhu.out).mono ?_
    rintro e _ ⟨rfl, rfl⟩
    go_wp2_with fail
    go_ret
    exact ⟨ret_bool HR.out, B1.out⟩
  · have HR : Hid (false = R) := Lib.hid (by rw [hR]; simp only [decide_eq_false hr, Bool.and_false])
    have z1 : (r == 0) = false := by simpa using hr
    clear hR ha hn hu hr
    go_wp2_with fail
    refine (rwithinT a 0 262144 w1 Hha.out).mono ?_
    rintro e _ ⟨rfl, rfl⟩
    go_wp2_with fail
    refine (rwithinT n 1 1024 w1 Hhn.out).mono ?_
    rintro e _ ⟨rfl, rfl⟩
    go_wp2_with fail
    refine (rwithinT u 1 16 w1 Hhu.out).mono ?_
    rintro e _ ⟨rfl, rfl⟩
    go_wp2_with fail
    go_ret
    exact ⟨ret_bool HR.out, B1.out⟩
def slB (o m : Int) : Bool := decide (0 ≤ o ∧ o ≤ 15) && decide (1 ≤ m ∧ m ≤ 255)
theorem put_sl (least : Int) (p : Pu) : putOk least p = (decide (least ≤ p.x ∧ p.x ≤ 511) && slB p.o p.m) := by unfold putOk slB; rw [Bool.and_assoc]
def slC (k : List Int) (o m : Int) : List Value := u8l k ++ [.int .i64 o, .int .i64 m]
theorem infoSl : (Tryz.prog.info? 46).map (·.size) = some 34 := by kernel_rfl
theorem slC_len {k : List Int} (h : k.length = 32) (o m : Int) : (slC k o m).length = 34 := by simp [slC, u8l_len, h]
theorem slC_one (k : List Int) (o m : Int) : ∀ v ∈ slC k o m, v.oneCell' = true := by
  intro v hv
  simp only [slC, List.mem_append] at hv
  rcases hv with hv | hv
  · exact u8l_one _ v hv
  · simp at hv; rcases hv with rfl | rfl <;> rfl
def zSl : List Value := slC (List.replicate 32 0) 0 0
theorem zeroVSl (u : World) : (zeroValue 46).run Tryz.prog u = .ok (.agg zSl.toArray) u := by kernel_rfl
theorem slC_at {k : List Int} (h : k.length = 32) (o m : Int) : (slC k o m)[32]? = some (.int .i64 o) ∧ (slC k o m)[33]? = some (.int .i64 m) := by
  unfold slC
  constructor <;> rw [List.getElem?_append_right (by rw [u8l_len, h]; omega), u8l_len, h] <;> rfl
set_option maxRecDepth 100000 in
theorem slice57 (k : List Int) (o m : Int) (hk : k.length = 32) (W : World) : Calls Tryz.prog 48 #[.agg (slC k o m).toArray] W fun e W' => e = .returned (.bool (slB o m)) ∧ Below W.heap.size W W' := by
  obtain ⟨R, hR⟩ : ∃ R, R = slB o m := ⟨_, rfl⟩
  rw [← hR]
  unfold slB at hR
  have A1 := Lib.hid (slC_at hk o m)
  have LN := Lib.hid (slC_len hk o m)
  have ON := Lib.hid (slC_one k o m)
  obtain ⟨cs, hcs⟩ : ∃ cs, cs = slC k o m := ⟨_, rfl⟩
  rw [← hcs] at A1 LN ON ⊢
  have SZ : Hid ((Tryz.prog.info? 46).map (·.size) = some cs.length) := Lib.hid (by rw [LN.out]; exact infoSl)
  have ZL : Hid (zSl.length = cs.length) := Lib.hid (by rw [LN.out]; rfl)
  clear hcs
  go_enter Tryz.func48, Tryz.ntmps48
  go_upto_region 1 with (refine Go.Great.wpList_boxTo rfl 46 (.tmp 0) rfl (some 1) rfl _ rfl cs.toArray rfl ?_)
  obtain ⟨w1, hw1⟩ : ∃ w1, w1 = W.alloc (.cells cs.toArray 46) := ⟨_, rfl⟩
  have B1 : Hid (Below W.heap.size W w1) := Lib.hid (by rw [hw1]; exact (Below.refl _ _).alloc (Nat.le_refl _) _)
  have Q1 : Hid (w1.heap[W.heap.size]? = some (.cells cs.toArray 46 (0, 0))) := Lib.hid (by rw [hw1]; exact heap_new W _)
  rw [← hw1]
  obtain ⟨q, hq⟩ : ∃ q, q = W.heap.size := ⟨_, rfl⟩
  rw [← hq] at Q1 ⊢
  have c0 : w1.cell? ⟨q, 32, none⟩ = some (.int .i64 o) := by have := range_of Q1.out 32 _ A1.out.1; rwa [Nat.zero_add] at this
  have c1 : w1.cell? ⟨q, 33, none⟩ = some (.int .i64 m) := by have := range_of Q1.out 33 _ A1.out.2; rwa [Nat.zero_add] at this
  clear hw1 hq Q1
  by_cases ha : 0 ≤ o ∧ o ≤ 15
  rotate_left
  · have HR : Hid (false = R) := Lib.hid (by rw [hR]; simp only [decide_eq_false ha, Bool.and_false, Bool.false_and])
    have HF := Lib.hid ha
    clear hR  ha
    go_wp2_with fail
    refine (rwithinF o 0 15 w1 HF.out).mono ?_
    rintro e _ ⟨rfl, rfl⟩
    go_wp2_with fail
    go_ret
    exact ⟨ret_bool HR.out, B1.out⟩
  have Hha := Lib.hid ha
  by_cases hn : 1 ≤ m ∧ m ≤ 255
  rotate_left
  · have HR : Hid (false = R) := Lib.hid (by rw [hR]; simp only [decide_eq_false hn, Bool.and_false, Bool.false_and])
    have HF := Lib.hid hn
    clear hR ha hn
    go_wp2_with fail
    refine (rwithinT o 0 15 w1 Hha.out).mono ?_
    rintro e _ ⟨rfl, rfl⟩
    go_wp2_with fail
    refine (rwithinF m 1 255 w1 HF.out).mono ?_
    rintro e _ ⟨rfl, rfl⟩
    go_wp2_with fail
    go_ret
    exact ⟨ret_bool HR.out, B1.out⟩
  have Hhn := Lib.hid hn
  have HR : Hid (true = R) := Lib.hid (by rw [hR]; simp only [decide_eq_true ha, decide_eq_true hn, Bool.and_true])
  clear hR ha hn
  go_wp2_with fail
  refine (rwithinT o 0 15 w1 Hha.out).mono ?_
  rintro e _ ⟨rfl, rfl⟩
  go_wp2_with fail
  refine (rwithinT m 1 255 w1 Hhn.out).mono ?_
  rintro e _ ⟨rfl, rfl⟩
  go_wp2_with fail
  go_ret
  exact ⟨ret_bool HR.out, B1.out⟩
/-- Bytes being written, by appends. -/
structure Out (base : Nat) (w0 w : World) (v : Value) (l : List Int) : Prop where
  row : w.ownsRow base 5 1 v l.length (u8l l)
  below : Below base w0 w
theorem Out.nil (w : World) : Out w.heap.size w w (.slice none 0 0) [] := ⟨World.ownsRow_nil _ _ _ _, Below.refl _ _⟩
theorem Out.step {base : Nat} {w0 w w3 : World} {v v' : Value} {l : List Int} {o : Obj} {x : Int} (h : Out base w0 w v l) (hb : base ≤ w.heap.size) (ho : w3.ownsRow base 5 1 v' (l.length + 1) (u8l l ++ [.int .u8 x])) (hg : (w.alloc o).grownBy w3 v.ownBlock) : Out base w0 w3 v' (l ++ [x]) := by
  refine ⟨?_, (h.below.alloc hb o).grown hg (Nat.le_trans hb (by simp)) (fun k e => (h.row.lt k e).1)⟩
  have e1 : (l ++ [x]).length = l.length + 1 := by simp
  have e2 : u8l (l ++ [x]) = u8l l ++ [.int .u8 x] := by simp [u8l]
  rw [e1, e2]; exact ho
theorem Out.many {base : Nat} {w0 w w3 : World} {v v' : Value} {l m : List Int} (h : Out base w0 w v l) (hb : base ≤ w.heap.size) (ho : w3.ownsRow base 5 1 v' (l.length + m.length) (u8l l ++ u8l m)) (hg : w.grownBy w3 v.ownBlock) : Out base w0 w3 v' (l ++ m) := by
  refine ⟨?_, h.below.grown hg hb (fun k e => (h.row.lt k e).1)⟩
  have e2 : u8l (l ++ m) = u8l l ++ u8l m := by simp [u8l]
  rw [List.length_append, e2]; exact ho
theorem be_take_all (s : Nat) (x : Int) : (be s x).take (s - 0) = be s x := List.take_of_length_le (by rw [be_len]; omega)
set_option maxRecDepth 100000 in
set_option maxHeartbeats 2000000 in
theorem rnumber40 (x : Int) (s : Nat) (W : World) (hs4 : s ≤ 4) : Calls Tryz.prog 28 #[.int .i64 x, .int .i64 s] W fun e W' => ∃ v, e = .returned v ∧ Out W.heap.size W W' v (be s x) := by
  obtain ⟨i0, hi, hz0, hz1, hz2⟩ := infoParts info5
  have HI := Lib.hid (And.intro hi (And.intro hz0 (And.intro hz1 hz2)))
  clear hi hz0 hz1 hz2
  have hw1 : IntKind.i64.wrap ((s : Int) - 1) = (s : Int) - 1 := IntWalk.i64_in _ (by omega)
  go_enter Tryz.func28, Tryz.ntmps28
  go_wp2_with fail
  go_loopw [5, 6] (fun v y w2 => ∃ m : Nat, m ≤ s ∧ y = .int .i64 ((m : Int) - 1) ∧ Out W.heap.size W w2 v ((be s x).take (s - m))) (fun _ y _ => (intOf y + 1).toNat)
  case atStart => exact ⟨s, Nat.le_refl _, rfl, by rw [Nat.sub_self]; exact Out.nil W⟩
  case round =>
    obtain ⟨m, hm, rfl, ho⟩ := hrel
    have HO := Lib.hid ho
    clear ho hw1
    by_cases h0 : m = 0
    · subst h0
      have ho := HO.out
      rw [be_take_all] at ho
      have HO := Lib.hid ho
      have t1 : decide ((0 : Int) ≤ ((0 : Nat) : Int) - 1) = false := by decide
      clear ho
      go_wp2_with fail
      go_ret
      exact ⟨_, rfl, HO.out⟩
    · obtain ⟨i, hi⟩ : ∃ i, m = i + 1 := ⟨m - 1, by omega⟩
      subst hi
      have hi3 : i ≤ 3 := by omega
      have hy : (((i + 1 : Nat) : Int) - 1) = (i : Int) := by omega
      rw [hy]
      have t1 : decide ((0 : Int) ≤ (i : Int)) = true := by simp
      have hjs : s - (i + 1) < s := by omega
      have TK2 := Lib.hid (be_take s x (s - (i + 1)) hjs)
      obtain ⟨z, hz⟩ : ∃ z : Nat, z = 8 * i := ⟨_, rfl⟩
      have hw8 : IntKind.i64.wrap (8 * (i : Int)) = (z : Int) := by rw [IntWalk.i64_in _ (by omega)]; omega
      have hz0 : (0 : Int) ≤ (z : Int) := by omega
      have hz64 : (z : Int) ≤ 64 := by omega
      obtain ⟨c, hc⟩ : ∃ c, c = x / 256 ^ (s - 1 - (s - (i + 1))) % 256 := ⟨_, rfl⟩
      rw [← hc] at TK2
      obtain ⟨v', hv⟩ : ∃ v' : Int, x / 2 ^ z = v' := ⟨_, rfl⟩
      have hv8 : IntKind.u8.wrap v' = c := by
        rw [hc, ← hv, hz, show s - 1 - (s - (i + 1)) = i by omega]
        have e : (256 : Int) ^ i = 2 ^ (8 * i) := by rw [Int.pow_mul]; rfl
        rw [e]
        rfl
      have SE : Hid (s - i = s - (i + 1) + 1) := Lib.hid (by omega)
      have OR := Lib.hid HO.out.row
      have HSZ := Lib.hid HO.out.below.size
      have LN : ((be s x).take (s - (i + 1))).length ≤ 4 := by rw [List.length_take, be_len]; omega
      obtain ⟨L, hL⟩ : ∃ L, L = (be s x).take (s - (i + 1)) := ⟨_, rfl⟩
      rw [← hL] at HO OR LN TK2
      have L1 : Hid (L.length + 1 ≤ maxLen) := Lib.hid (by unfold maxLen; omega)
      have L2 : Hid ((L.length + 1) * 1 ≤ 140737488355328) := Lib.hid (by omega)
      have L3 : Hid (W.heap.size ≤ wr.heap.size + 1) := Lib.hid (Nat.le_succ_of_le HSZ.out)
      have U1 : Hid (∀ u ∈ [Value.int .u8 c], u.oneCell' = true) := Lib.hid (by simp [Value.oneCell'])
      have hwi : IntKind.i64.wrap ((i : Int) - 1) = (i : Int) - 1 := IntWalk.i64_in _ (by omega)
      clear hy h0 hz hc hL
      go_wp2_with (at_builtin; refine wpList_append_own _ rfl _ _ 30 rfl W.heap.size 5 i0 (.int .u8 0) 1 1 Tryz.underlying30 HI.out.1 HI.out.2.1 HI.out.2.2.1 HI.out.2.2.2 rfl (by decide) _ _ _ rfl (OR.out.alloc _) ⟨wr.heap.size, 0, none⟩ 1 1 [.int .u8 c] rfl rfl (cell_one_new _ _ _) U1.out L1.out L2.out (by simp; exact L3.out) ?_; intro v3 w3 hown hgr _; refine Hid.out ?_)
      refine Lib.hid ?_
      have HO3 := HO.out.step HSZ.out hown hgr
      rw [← TK2.out, ← SE.out] at HO3
      have HO4 := Lib.hid HO3
      obtain ⟨A3, c3, rfl⟩ := row_shapeS hown
      clear hown hgr HO3
      go_wp2_with fail
      go_roundw
      case rel => exact ⟨i, by omega, by go_num, HO4.out⟩
      case measure => simp [intOf]
end Go.Proofs.YthdllbbjajddiaaGreatDoor

