/- Layer 23 (maps): the document's find, Get, Set and Clear. Printed by genQb.py. -/
import Derived.Test.YtodhaaaodmcplaaGreatQa
import Derived.Test.YtodhaaaodmcplaaGreatNo
import Derived.Test.YtodhaaaodmcplaaGreatNq
set_option linter.all false
namespace Go.Proofs.YtodhaaaodmcplaaGreat
open Go.RowKit Go.Maps Go.WideMaps
theorem rwithin (n a b : Int) (w : World) : Calls Tryz.prog 64 #[.int .i64 n, .int .i64 a, .int .i64 b] w fun e w' => e = .returned (.bool (decide (a ≤ n ∧ n ≤ b))) ∧ w = w' := by
  by_cases h1 : a ≤ n
  · by_cases h2 : n ≤ b
    · go_enter Tryz.func64, Tryz.ntmps64
      go_wp2
      go_ret
      exact ⟨by simp [h1, h2], rfl⟩
    · have d2 : decide (n ≤ b) = false := by simpa using h2
      go_enter Tryz.func64, Tryz.ntmps64
      go_wp2
      go_ret
      exact ⟨by simp [h2], rfl⟩
  · have d1 : decide (a ≤ n) = false := by simpa using h1
    go_enter Tryz.func64, Tryz.ntmps64
    go_wp2
    go_ret
    exact ⟨by first | rfl | (rw [show decide (a ≤ n ∧ n ≤ b) = false from decide_eq_false (by omega)]; rfl), rfl⟩
theorem rwithinT (n a b : Int) (w : World) (h : a ≤ n ∧ n ≤ b) : Calls Tryz.prog 64 #[.int .i64 n, .int .i64 a, .int .i64 b] w fun e w' => e = .returned (.bool true) ∧ w = w' := by
  have := rwithin n a b w
  rwa [decide_eq_true h] at this
theorem rwithinF (n a b : Int) (w : World) (h : ¬ (a ≤ n ∧ n ≤ b)) : Calls Tryz.prog 64 #[.int .i64 n, .int .i64 a, .int .i64 b] w fun e w' => e = .returned (.bool false) ∧ w = w' := by
  have := rwithin n a b w
  rwa [decide_eq_false h] at this
theorem ret_bool {a b : Bool} (h : a = b) : Ending.returned (.bool a) = .returned (.bool b) := by rw [h]
def slB (o m : Int) : Bool := decide (0 ≤ o ∧ o ≤ 15) && decide (1 ≤ m ∧ m ≤ 255)
abbrev zSl : List Value := zS
set_option maxRecDepth 100000 in
theorem slice57 (k : List Int) (o m : Int) (hk : k.length = 32) (W : World) : Calls Tryz.prog 39 #[.agg (slC k o m).toArray] W fun e W' => e = .returned (.bool (slB o m)) ∧ Below W.heap.size W W' := by
  obtain ⟨R, hR⟩ : ∃ R, R = slB o m := ⟨_, rfl⟩
  rw [← hR]
  unfold slB at hR
  have A1 := Lib.hid (slC_at hk o m)
  have LN := Lib.hid (slC_len hk o m)
  have ON := Lib.hid (slC_one k o m)
  obtain ⟨cs, hcs⟩ : ∃ cs, cs = slC k o m := ⟨_, rfl⟩
  rw [← hcs] at A1 LN ON ⊢
  have SZ : Hid ((Tryz.prog.info? 33).map (·.size) = some cs.length) := Lib.hid (by rw [LN.out]; exact infoSl)
  have ZL : Hid (zSl.length = cs.length) := Lib.hid (by rw [LN.out]; rfl)
  clear hcs
  go_enter Tryz.func39, Tryz.ntmps39
  go_upto_region 1 with (refine Go.Great.wpList_boxTo rfl 33 (.tmp 0) rfl (some 1) rfl _ rfl cs.toArray rfl ?_)
  obtain ⟨w1, hw1⟩ : ∃ w1, w1 = W.alloc (.cells cs.toArray 33) := ⟨_, rfl⟩
  have B1 : Hid (Below W.heap.size W w1) := Lib.hid (by rw [hw1]; exact (Below.refl _ _).alloc (Nat.le_refl _) _)
  have Q1 : Hid (w1.heap[W.heap.size]? = some (.cells cs.toArray 33 (0, 0))) := Lib.hid (by rw [hw1]; exact heap_new W _)
  rw [← hw1]
  obtain ⟨q, hq⟩ : ∃ q, q = W.heap.size := ⟨_, rfl⟩
  rw [← hq] at Q1 ⊢
  have c0 : w1.cell? ⟨q, 32, none⟩ = some (.int .i64 o) := by have := range_of Q1.out 32 _ A1.out.1; rwa [Nat.zero_add] at this
  have c1 : w1.cell? ⟨q, 33, none⟩ = some (.int .i64 m) := by have := range_of Q1.out 33 _ A1.out.2; rwa [Nat.zero_add] at this
  clear hw1 hq Q1
  by_cases ha : 0 ≤ o ∧ o ≤ 15
  rotate_left
  · have HR : Hid (false = R) := Lib.hid (by rw [hR]; simp only [decide_eq_false ha, Bool.and_false, Bool.false_and])
    have HF := Lib.hid ha
    clear hR  ha
    go_wp2_with fail
    refine (rwithinF o 0 15 w1 HF.out).mono ?_
    rintro e _ ⟨rfl, rfl⟩
    go_wp2_with fail
    go_ret
    exact ⟨ret_bool HR.out, B1.out⟩
  have Hha := Lib.hid ha
  by_cases hn : 1 ≤ m ∧ m ≤ 255
  rotate_left
  · have HR : Hid (false = R) := Lib.hid (by rw [hR]; simp only [decide_eq_false hn, Bool.and_false, Bool.false_and])
    have HF := Lib.hid hn
    clear hR ha hn
    go_wp2_with fail
    refine (rwithinT o 0 15 w1 Hha.out).mono ?_
    rintro e _ ⟨rfl, rfl⟩
    go_wp2_with fail
    refine (rwithinF m 1 255 w1 HF.out).mono ?_
    rintro e _ ⟨rfl, rfl⟩
    go_wp2_with fail
    go_ret
    exact ⟨ret_bool HR.out, B1.out⟩
  have Hhn := Lib.hid hn
  have HR : Hid (true = R) := Lib.hid (by rw [hR]; simp only [decide_eq_true ha, decide_eq_true hn, Bool.and_true])
  clear hR ha hn
  go_wp2_with fail
  refine (rwithinT o 0 15 w1 Hha.out).mono ?_
  rintro e _ ⟨rfl, rfl⟩
  go_wp2_with fail
  refine (rwithinT m 1 255 w1 Hhn.out).mono ?_
  rintro e _ ⟨rfl, rfl⟩
  go_wp2_with fail
  go_ret
  exact ⟨ret_bool HR.out, B1.out⟩
theorem all_rise {st : MS} (h : Inv st) : (allS st).Pairwise fun a b => a.1 < b.1 := List.pairwise_cons.2 ⟨fun x hx => by have := h.ids x hx; show (0 : Int) < x.1; omega, h.rise⟩
theorem idA_lt {st : MS} (h : Inv st) {i j : Nat} (hij : i < j) (hj : j < (allS st).length) : idA st i < idA st j := by
  have h1 := all_at (st := st) (i := i) (by omega)
  have h2 := all_at hj
  have hp := List.pairwise_iff_getElem.1 (all_rise h) i j (by omega) hj hij
  have e1 : (allS st)[i] = (idA st i, mpA st i) := (List.getElem?_eq_some_iff.1 h1).2
  have e2 : (allS st)[j] = (idA st j, mpA st j) := (List.getElem?_eq_some_iff.1 h2).2
  rw [e1, e2] at hp
  exact hp
/-- Where a map stands. -/
theorem of_pos {st : MS} {id : Int} {F : Mp1} (h : Inv st) (hf : ofM st id = some F) : ∃ i, i < (allS st).length ∧ idA st i = id ∧ mpA st i = F ∧ ∀ j, j < i → idA st j ≠ id := by
  have hm : (id, F) ∈ allS st := by
    unfold ofM at hf
    split at hf
    · rename_i h0
      injection hf with hf
      rw [h0, ← hf]
      exact List.mem_cons_self
    · exact List.mem_cons_of_mem _ (find_mem hf)
  obtain ⟨i, hi⟩ := List.mem_iff_getElem?.1 hm
  have hlt := (List.getElem?_eq_some_iff.1 hi).1
  refine ⟨i, hlt, idA_at hi, mpA_at hi, fun j hj => ?_⟩
  have := idA_lt h hj hlt
  rw [idA_at hi] at this
  show _ ≠ _
  have e : ((id, F) : Int × Mp1).1 = id := rfl
  rw [e] at this
  omega
theorem of_neg {st : MS} {id : Int} (hf : ofM st id = none) : ∀ j, j < (allS st).length → idA st j ≠ id := by
  intro j hj e
  have h1 := all_at hj
  unfold ofM at hf
  split at hf
  · cases hf
  · rename_i h0
    rcases j with _ | j
    · exact h0 e.symm
    · have hm : (idA st (j + 1), mpA st (j + 1)) ∈ st.snaps := List.mem_of_getElem? (i := j) h1
      exact find_none.1 hf _ hm e
set_option maxRecDepth 100000 in
theorem find_no {n0 : Nat} {w : World} {p g cap : Nat} {st : MS} {V : Nat → Value} (h : Rm n0 w p g cap st V) (id : Int) (hf : ofM st id = none) : Calls Tryz.prog 35 #[.pointer (some ⟨p, 0, none⟩), .int .i64 id] w fun e w' => e = .returned (.int .i64 (-1)) ∧ w = w' := by
  have H := Lib.hid h
  have c0 := h.at0
  have HF := Lib.hid (of_neg hf)
  have hK9 : (allS st).length ≤ 9 := by have := h.inv.len; rw [all_len]; omega
  obtain ⟨K, hK⟩ : ∃ K, K = (allS st).length := ⟨_, rfl⟩
  have HK := Lib.hid hK
  rw [← hK] at c0 hK9
  clear h hf hK
  go_enter Tryz.func35, Tryz.ntmps35
  go_wp2_with fail
  go_loopw [5] (fun i wr => ∃ j : Nat, j ≤ K ∧ i = .int .i64 j ∧ w = wr) (fun i _ => K - (Go.RowKit.intOf i).toNat)
  case atStart => exact ⟨0, Nat.zero_le _, rfl, rfl⟩
  case round =>
    obtain ⟨j, hj, rfl, rfl⟩ := hrel
    by_cases hlt : j < K
    · have cj := H.out.id_cell (i := j) (by have := HK.out; omega)
      have hne := HF.out j (by have := HK.out; omega)
      obtain ⟨x, hx⟩ : ∃ x, x = idA st j := ⟨_, rfl⟩
      rw [← hx] at cj hne
      have b1 : (x == id) = false := by simpa using hne
      have i1 : (0 : Int) ≤ j := by omega
      have i2 : (j : Int) < K := by omega
      clear hx hne
      go_wp2_with fail
      exact ⟨⟨j + 1, by omega, by push_cast; rfl, by first | rfl | trivial⟩, by simp [Go.RowKit.intOf]; omega⟩
    · obtain rfl : j = K := by omega
      go_wp2_with fail
      go_ret
      exact ⟨rfl, rfl⟩
set_option maxRecDepth 100000 in
theorem find_yes {n0 : Nat} {w : World} {p g cap : Nat} {st : MS} {V : Nat → Value} (h : Rm n0 w p g cap st V) (id : Int) (i : Nat) (hi : i < (allS st).length) (he : idA st i = id) (hf : ∀ j, j < i → idA st j ≠ id) : Calls Tryz.prog 35 #[.pointer (some ⟨p, 0, none⟩), .int .i64 id] w fun e w' => e = .returned (.int .i64 i) ∧ w = w' := by
  have H := Lib.hid h
  have c0 := h.at0
  have HF := Lib.hid hf
  have HE := Lib.hid he
  have hK9 : (allS st).length ≤ 9 := by have := h.inv.len; rw [all_len]; omega
  obtain ⟨K, hK⟩ : ∃ K, K = (allS st).length := ⟨_, rfl⟩
  have HK := Lib.hid hK
  rw [← hK] at c0 hK9 hi
  clear h hf hK he
  go_enter Tryz.func35, Tryz.ntmps35
  go_wp2_with fail
  go_loopw [5] (fun v wr => ∃ j : Nat, j ≤ i ∧ v = .int .i64 j ∧ w = wr) (fun v _ => i - (Go.RowKit.intOf v).toNat)
  case atStart => exact ⟨0, Nat.zero_le _, rfl, rfl⟩
  case round =>
    obtain ⟨j, hj, rfl, rfl⟩ := hrel
    have cj := H.out.id_cell (i := j) (by have := HK.out; omega)
    have i1 : (0 : Int) ≤ j := by omega
    have i2 : (j : Int) < K := by omega
    have i3 : j < K := by omega
    by_cases hlt : j < i
    · have hne := HF.out j hlt
      obtain ⟨x, hx⟩ : ∃ x, x = idA st j := ⟨_, rfl⟩
      rw [← hx] at cj hne
      have b1 : (x == id) = false := by simpa using hne
      clear hx hne
      go_wp2_with fail
      exact ⟨⟨j + 1, by omega, by push_cast; rfl, by first | rfl | trivial⟩, by simp [Go.RowKit.intOf]; omega⟩
    · obtain rfl : j = i := by omega
      rw [HE.out] at cj
      have b1 : (id == id) = true := by simp
      go_wp2_with fail
      go_ret
      exact ⟨rfl, rfl⟩

set_option maxRecDepth 100000 in
set_option maxHeartbeats 1000000 in
theorem rget_p {n0 : Nat} {w : World} {p : Nat} {st : MS} (h : Rs n0 w p st) (id un : Int) : Calls Tryz.prog 16 #[.pointer (some ⟨p, 0, none⟩), .int .i64 id, .int .i64 un] w fun e w' => e = .returned (getR st id un) ∧ Below w.heap.size w w' := by
  obtain ⟨g, cap, V, hx⟩ := h
  have H := Lib.hid hx
  have HZO := Lib.hid (oneC sl0)
  clear hx
  go_enter Tryz.func16, Tryz.ntmps16
  go_upto_region 1 with (refine wpList_laid rfl 33 rfl zS (zeroVS _) ?_)
  obtain ⟨q, hq⟩ : ∃ q, q = w.heap.size := ⟨_, rfl⟩
  obtain ⟨w1, hw1⟩ : ∃ z, z = w.alloc (.cells zS.toArray 33) := ⟨_, rfl⟩
  have B1 : Hid (Below w.heap.size w w1) := Lib.hid (by rw [hw1]; exact (Below.refl _ _).alloc (Nat.le_refl _) _)
  have Q1 : Hid (w1.heap[q]? = some (.cells zS.toArray 33 (0, 0))) := Lib.hid (by rw [hw1, hq]; exact heap_new w _)
  have H1 : Hid (Rm n0 w1 p g cap st V) := Lib.hid (H.out.go B1.out)
  rw [← hw1, ← hq]
  have HQ := Lib.hid hq
  clear hw1 hq H
  rcases ho : ofM st id with _ | F
  · have HR := Lib.hid (getR_none (getM_none (un := un) ho))
    have HF := Lib.hid (find_no H1.out id ho)
    clear ho
    go_wp2_with fail
    refine HF.out.mono ?_
    rintro e _ ⟨rfl, rfl⟩
    go_wp2_with (first | (refine wpList_buildG rfl 33 [] rfl [] rfl _ (buildS0 _) ?_) | (refine wpList_store_segK rfl 33 (.tmp 6) (.tmp 46) rfl q 0 rfl zS rfl zS 33 Q1.out sizeZ (Nat.le_refl _) HZO.out rfl ?_; intro w2 h2 k2 s2))
    rw [splice_whole _ _ (by rfl)] at h2
    refine bodyPost_ret (results_cell_mid rfl _ _ q zS _ rfl (range_of h2) Tryz.underlying33 rfl sizeZ) rfl ?_
    refine ⟨by rw [HR.out]; rfl, B1.out.trans (k2.below (fun k hk => by rw [hk, HQ.out]; exact Nat.le_refl _) B1.out.size)⟩
  obtain ⟨i, hi, he, hF, hfi⟩ := of_pos H1.out.inv ho
  have HF := Lib.hid (find_yes H1.out id i hi he hfi)
  obtain ⟨b, c, hV, hb1, hb2, hr⟩ := H1.out.opened hi
  rw [hF] at hr
  have c0 := H1.out.at0
  have cv := H1.out.sl_cell hi
  rw [hV] at cv
  have hn := H1.out.inv.n
  have hK9 : (allS st).length ≤ 9 := by have := H1.out.inv.len; rw [all_len]; omega
  obtain ⟨K, hK⟩ : ∃ K, K = (allS st).length := ⟨_, rfl⟩
  rw [← hK] at c0 hK9 hi
  obtain ⟨n, hn1⟩ : ∃ n, n = st.n := ⟨_, rfl⟩
  rw [← hn1] at cv hn hr
  have HN1 := Lib.hid hn1
  have HO := Lib.hid ho
  have j1 : (0 : Int) ≤ i := by omega
  have j2 : (i : Int) < K := by omega
  have j3 : decide ((i : Int) < 0) = false := by simp
  clear ho hK hn1 hV hb1 hb2 he hF hfi
  go_wp2_with fail
  refine HF.out.mono ?_
  rintro e _ ⟨rfl, rfl⟩
  by_cases hu0 : un < 0
  · have HR := Lib.hid (getR_none (getM_out (st := st) (id := id) (.inl hu0)))
    have d1 : decide (un < 0) = true := by simpa using hu0
    clear hn hr
    go_wp2_with (first | (refine wpList_buildG rfl 33 [] rfl [] rfl _ (buildS0 _) ?_) | (refine wpList_store_segK rfl 33 (.tmp 6) (.tmp 46) rfl q 0 rfl zS rfl zS 33 Q1.out sizeZ (Nat.le_refl _) HZO.out rfl ?_; intro w2 h2 k2 s2))
    rw [splice_whole _ _ (by rfl)] at h2
    refine bodyPost_ret (results_cell_mid rfl _ _ q zS _ rfl (range_of h2) Tryz.underlying33 rfl sizeZ) rfl ?_
    refine ⟨by rw [HR.out]; rfl, B1.out.trans (k2.below (fun k hk => by rw [hk, HQ.out]; exact Nat.le_refl _) B1.out.size)⟩
  have d1 : decide (un < 0) = false := by simpa using hu0
  by_cases hu1 : (n : Int) ≤ un
  · have HR := Lib.hid (getR_none (getM_out (st := st) (id := id) (un := un) (.inr (by have := HN1.out; omega))))
    have d2 : decide ((n : Int) ≤ un) = true := by simpa using hu1
    clear hn hr
    go_wp2_with (first | (refine wpList_buildG rfl 33 [] rfl [] rfl _ (buildS0 _) ?_) | (refine wpList_store_segK rfl 33 (.tmp 6) (.tmp 46) rfl q 0 rfl zS rfl zS 33 Q1.out sizeZ (Nat.le_refl _) HZO.out rfl ?_; intro w2 h2 k2 s2))
    rw [splice_whole _ _ (by rfl)] at h2
    refine bodyPost_ret (results_cell_mid rfl _ _ q zS _ rfl (range_of h2) Tryz.underlying33 rfl sizeZ) rfl ?_
    refine ⟨by rw [HR.out]; rfl, B1.out.trans (k2.below (fun k hk => by rw [hk, HQ.out]; exact Nat.le_refl _) B1.out.size)⟩
  have d2 : decide ((n : Int) ≤ un) = false := by simpa using hu1
  obtain ⟨u, rfl⟩ : ∃ u : Nat, un = u := ⟨un.toNat, by omega⟩
  have hun : u < n := by omega
  have i1 : (0 : Int) ≤ u := by omega
  have i2 : (u : Int) < n := by omega
  have d3 : decide (n ≤ u) = false := by simp; omega
  have hr0 := hr u hun
  have HR0 := Lib.hid hr0
  have HUN : Hid (u < st.n) := Lib.hid (by have := HN1.out; omega)
  have c33 : w1.cell? ⟨b, u * 34 + 33, none⟩ = some (.int .i64 (F u).1.m) := hr0 33 _ (slC_at (F u).2.key.len _ _).2
  clear hu0 hu1 hn hr hr0
  by_cases h0 : (F u).1.m = 0
  · have HR := Lib.hid (getR_none (getM_zero HO.out h0))
    rw [h0] at c33
    clear h0 HR0
    go_wp2_with (first | (refine wpList_buildG rfl 33 [] rfl [] rfl _ (buildS0 _) ?_) | (refine wpList_store_segK rfl 33 (.tmp 6) (.tmp 46) rfl q 0 rfl zS rfl zS 33 Q1.out sizeZ (Nat.le_refl _) HZO.out rfl ?_; intro w2 h2 k2 s2))
    rw [splice_whole _ _ (by rfl)] at h2
    refine bodyPost_ret (results_cell_mid rfl _ _ q zS _ rfl (range_of h2) Tryz.underlying33 rfl sizeZ) rfl ?_
    refine ⟨by rw [HR.out]; rfl, B1.out.trans (k2.below (fun k hk => by rw [hk, HQ.out]; exact Nat.le_refl _) B1.out.size)⟩
  · have HR := Lib.hid (getR_some (getM_at HO.out HUN.out h0))
    obtain ⟨mk, hmk⟩ : ∃ mk, mk = (F u).1.m := ⟨_, rfl⟩
    rw [← hmk] at c33 h0
    have d4 : (mk == 0) = false := by simpa using h0
    have HSZ := Lib.hid (sizeSl (F u))
    have HL := Lib.hid (lenC (F u))
    have HO1 := Lib.hid (oneC (F u))
    obtain ⟨cs, hcs⟩ : ∃ cs, cs = slcC (F u) := ⟨_, rfl⟩
    rw [← hcs] at HR HSZ HL HO1 HR0
    clear hmk hcs h0
    go_wp2_with (first | (refine wpList_load_midG rfl 33 (.tmp 56) rfl b (u * 34) rfl cs _ HR0.out Tryz.underlying33 rfl HSZ.out ?_) | (refine wpList_store_segK rfl 33 (.tmp 6) (.tmp 57) rfl q 0 rfl cs rfl zS 33 Q1.out HSZ.out (by rw [HL.out, zS_len]; exact Nat.le_refl _) HO1.out rfl ?_; intro w2 h2 k2 s2))
    rw [splice_whole _ _ (by rw [HL.out, zS_len])] at h2
    refine bodyPost_ret (results_cell_mid rfl _ _ q cs _ rfl (range_of h2) Tryz.underlying33 rfl HSZ.out) rfl ?_
    refine ⟨by rw [HR.out]; rfl, B1.out.trans (k2.below (fun k hk => by rw [hk, HQ.out]; exact Nat.le_refl _) B1.out.size)⟩
/-- What the document's setters answer. -/
def OutR (n0 : Nat) (w w' : World) (p : Nat) (st : MS) : Prop := Rs n0 w' p st ∧ KR n0 w w'
theorem outRB {n0 : Nat} {w w1 : World} {p : Nat} {st : MS} (hb : Below w.heap.size w w1) (h : Rs n0 w1 p st) : OutR n0 w w1 p st := ⟨h, KR.fresh hb⟩
/-- A row of slices: one of them is set. -/
theorem units_set (F : Mp1) {u n : Nat} (s : Slc) (hu : u < n) : splice (unitsC F n) (u * 34) (slcC s) = unitsC (upd F u s) n := by
  unfold unitsC
  rw [flatS_splice (wideC F) (lenC s) hu]
  refine flatS_congr fun j _ => ?_
  unfold upd
  split <;> rfl
theorem Rm.stored {n0 : Nat} {w w2 : World} {p g cap b c u : Nat} {st : MS} {V : Nat → Value} {cur : List Value} (h : Rm n0 w p g cap st V) (hV : V 0 = .slice (some ⟨b, 0, none⟩) st.n c) (s : Slc) (hu : u < st.n) (hc : w.heap[b]? = some (.cells cur.toArray 33 (0, 0)))
    (h2 : w2.heap[b]? = some (.cells (splice cur (u * 34) (slcC s)).toArray 33 (0, 0))) (hk : Keeps (fun k => k = b) w w2) : Rm n0 w2 p g cap { st with now := upd st.now u s } V ∧ KR n0 w w2 := by
  have ho := h.sl 0 h.pos
  rw [mpA_zero] at ho
  have hk2 : Keeps (fun k => (V 0).ownBlock = some k) w w2 := hk.mono fun i _ e => by rw [hV, e]; rfl
  have hm : (u + 1) * 34 ≤ st.n * 34 := Nat.mul_le_mul_right _ hu
  have hown := own_seg (cur := cur.toArray) (ys := slcC s) (o := u * 34) (by rw [hV] at ho; exact ho) hc (by rw [lenC]; omega) (by simpa using h2)
  rw [units_set st.now s hu, ← hV] at hown
  exact ⟨h.turn hk2 hown, h.turnK hk2⟩

set_option maxRecDepth 100000 in
set_option maxHeartbeats 2000000 in
theorem rset_p {n0 : Nat} {w : World} {p : Nat} {st : MS} (h : Rs n0 w p st) (hn0 : n0 ≤ w.heap.size) (un : Int) (s : Sl) (hk : KeyOk 32 s.k) : Calls Tryz.prog 26 #[.pointer (some ⟨p, 0, none⟩), .int .i64 un, .agg (slC s.k s.o s.m).toArray] w fun e w' => e = .returned (.int .i64 (setE st un s)) ∧ OutR n0 w w' p (setM st un s) := by
  obtain ⟨g, cap, V, hx⟩ := h
  have H := Lib.hid hx
  have HL := Lib.hid (slC_len hk.len s.o s.m)
  have HO := Lib.hid (slC_one s.k s.o s.m)
  have HK := Lib.hid hk
  have HSLC : Hid (∀ W, Calls Tryz.prog 39 #[.agg (slC s.k s.o s.m).toArray] W fun e W' => e = .returned (.bool (slB s.o s.m)) ∧ Below W.heap.size W W') := Lib.hid fun W => slice57 s.k s.o s.m hk.len W
  have HCS : Hid (OkSl s → slC s.k s.o s.m = slcC (mkS s)) := Lib.hid fun h => by rw [mkS_of h]; rfl
  obtain ⟨cs, hcs⟩ : ∃ cs, cs = slC s.k s.o s.m := ⟨_, rfl⟩
  rw [← hcs] at HL HO HCS HSLC ⊢
  have HSZ : Hid ((Tryz.prog.info? 33).map (·.size) = some cs.length) := Lib.hid (by rw [HL.out]; exact infoSl)
  clear hcs hx hk
  go_enter Tryz.func26, Tryz.ntmps26
  go_upto_region 1 with (refine Go.Great.wpList_boxTo rfl 33 (.tmp 2) rfl (some 5) rfl _ rfl cs.toArray rfl ?_)
  obtain ⟨q, hq⟩ : ∃ q, q = w.heap.size := ⟨_, rfl⟩
  obtain ⟨w1, hw1⟩ : ∃ z, z = w.alloc (.cells cs.toArray 33) := ⟨_, rfl⟩
  have B1 : Hid (Below w.heap.size w w1) := Lib.hid (by rw [hw1]; exact (Below.refl _ _).alloc (Nat.le_refl _) _)
  have Q1 : Hid (w1.heap[q]? = some (.cells cs.toArray 33 (0, 0))) := Lib.hid (by rw [hw1, hq]; exact heap_new w _)
  have H1 : Hid (Rm n0 w1 p g cap st V) := Lib.hid (H.out.go B1.out)
  rw [← hw1, ← hq]
  have HQ := Lib.hid hq
  obtain ⟨b, c, hV, hb1, hb2, _⟩ := H1.out.opened H1.out.pos
  have HV := Lib.hid hV
  have HBQ : Hid (b ≠ q) := Lib.hid (by
    obtain ⟨b2, c2, hV2, _, hb3, _⟩ := H.out.opened H.out.pos
    rw [hV] at hV2
    injection hV2 with hV2
    injection hV2 with hV2
    injection hV2 with hV2
    rw [hV2, hq]
    omega)
  have c0 := H1.out.at0
  have cv := H1.out.sl_cell H1.out.pos
  rw [hV] at cv
  have hn := H1.out.inv.n
  have hK0 := H1.out.pos
  obtain ⟨K, hK⟩ : ∃ K, K = (allS st).length := ⟨_, rfl⟩
  rw [← hK] at c0 hK0
  have HKK := Lib.hid hK
  obtain ⟨n, hn1⟩ : ∃ n, n = st.n := ⟨_, rfl⟩
  rw [← hn1] at cv hn
  have HN1 := Lib.hid hn1
  have j1 : (0 : Int) < K := by omega
  simp only [Nat.zero_mul, Nat.zero_add] at cv
  have R1 := Lib.hid (range_of Q1.out)
  clear hw1 hq hV hb1 hb2 hK hn1 H
  by_cases h0 : un < 0
  · have d0 : decide (un < 0) = true := by simpa using h0
    have HE := Lib.hid (setB_no (st := st) (un := un) (s := s) (by have := HN1.out; omega))
    clear hn
    go_wp2_with fail
    go_ret
    exact ⟨ret_int HE.out.1.symm, by rw [HE.out.2]; exact outRB B1.out ⟨g, cap, V, H1.out⟩⟩
  have d0 : decide (un < 0) = false := by simpa using h0
  by_cases h1 : (n : Int) ≤ un
  · have d1 : decide ((n : Int) ≤ un) = true := by simpa using h1
    have HE := Lib.hid (setB_no (st := st) (un := un) (s := s) (by have := HN1.out; omega))
    clear hn
    go_wp2_with fail
    go_ret
    exact ⟨ret_int HE.out.1.symm, by rw [HE.out.2]; exact outRB B1.out ⟨g, cap, V, H1.out⟩⟩
  have d1 : decide ((n : Int) ≤ un) = false := by simpa using h1
  obtain ⟨u, rfl⟩ : ∃ u : Nat, un = u := ⟨un.toNat, by omega⟩
  have HU : Hid (u < st.n) := Lib.hid (by have := HN1.out; omega)
  have i1 : (0 : Int) ≤ u := by omega
  have i2 : (u : Int) < n := by omega
  have d6 : decide (n ≤ u) = false := by simp; omega
  by_cases hsl : slB s.o s.m = true
  rotate_left
  · have HE := Lib.hid (setB_no (st := st) (un := u) (s := s) (by
      intro h
      apply hsl
      unfold slB
      simp only [Bool.and_eq_true, decide_eq_true_eq]
      omega))
    have hsf : slB s.o s.m = false := by simpa using hsl
    rw [hsf] at HSLC
    clear hn hsl hsf h0 h1
    go_wp2_with (refine wpList_load_midG rfl 33 (.tmp 5) rfl q 0 rfl cs _ R1.out Tryz.underlying33 rfl HSZ.out ?_)
    refine (HSLC.out _).mono ?_
    rintro e w2 ⟨rfl, hb⟩
    have H2 := Lib.hid (H1.out.go hb)
    have B2 := Lib.hid (B1.out.trans (hb.mono B1.out.size))
    clear hb
    go_wp2_with fail
    go_ret
    exact ⟨ret_int HE.out.1.symm, by rw [HE.out.2]; exact outRB B2.out ⟨g, cap, V, H2.out⟩⟩
  have hslp := hsl
  unfold slB at hslp
  simp only [Bool.and_eq_true, decide_eq_true_eq] at hslp
  have HE := Lib.hid (setB_yes (st := st) (un := u) (s := s) (by have := HN1.out; omega))
  have HOK : Hid (OkSl s) := Lib.hid ⟨HK.out, by omega, by omega⟩
  rw [hsl] at HSLC
  clear hn hsl hslp h0 h1
  go_wp2_with (refine wpList_load_midG rfl 33 (.tmp 5) rfl q 0 rfl cs _ R1.out Tryz.underlying33 rfl HSZ.out ?_)
  refine (HSLC.out _).mono ?_
  rintro e w2 ⟨rfl, hb⟩
  have H2 := Lib.hid (H1.out.go hb)
  have Q2 := Lib.hid ((hb.block q (heap_lt Q1.out)).trans Q1.out)
  have B2 := Lib.hid (B1.out.trans (hb.mono B1.out.size))
  clear hb c0 cv Q1 R1 H1 B1
  go_wp2_with fail
  have HD : Hid (Rm n0 w2.drew p g cap st V) := Lib.hid (H2.out.go (below_drewN (Below.refl _ _) 1))
  obtain ⟨cur, hcur, hlen⟩ := row_blk (by have h := HD.out.sl 0 HD.out.pos; rw [HV.out] at h; exact h)
  have HC := Lib.hid hcur
  have HLN : Hid (u * 34 + 34 ≤ cur.length) := Lib.hid (by have := HU.out; omega)
  have HT : Hid (∀ W, Keeps (fun k => k = b) w2.drew W → (fun w' : World => (w'.cell? ⟨p, 0, none⟩ = some (.slice (some ⟨g, 0, none⟩) K cap) ∧ w'.cell? ⟨g, 1, none⟩ = some (.slice (some ⟨b, 0, none⟩) n c)) ∧ w'.rangeAt q 0 cs) W) := Lib.hid fun W hk => by
    have h1 := HD.out.sl_cell HD.out.pos
    simp only [Nat.zero_mul, Nat.zero_add] at h1
    rw [HV.out, ← HN1.out] at h1
    have h0 := HD.out.at0
    rw [← HKK.out] at h0
    refine ⟨⟨hk.cell h0 fun e => cells_ne HD.out.cell hcur (by decide) e, hk.cell h1 fun e => ?_⟩, range_of (hk.heap (w := w2.drew) Q2.out fun e => HBQ.out e.symm)⟩
    obtain ⟨_, ds, h2⟩ := own_cells HD.out.row (k := g) rfl
    exact cells_ne h2 hcur (by decide) e
  have HBV : Hid (∀ W, Keeps (fun k => k = b) w2.drew W → W.heap[b]? = some (.cells (splice cur (u * 34) (slcC (mkS s))).toArray 33 (0, 0)) → Rm n0 W p g cap { st with now := upd st.now u (mkS s) } V ∧ KR n0 w2.drew W) := Lib.hid fun W hk h2 => HD.out.stored HV.out (mkS s) HU.out hcur h2 hk
  clear hcur hlen
  refine wp_region_held_drew (S := (fun w' : World => (w'.cell? ⟨p, 0, none⟩ = some (.slice (some ⟨g, 0, none⟩) K cap) ∧ w'.cell? ⟨g, 1, none⟩ = some (.slice (some ⟨b, 0, none⟩) n c)) ∧ w'.rangeAt q 0 cs)) follows (HT.out _ (Keeps.refl _ _)) (fun hHeld => ?_)
  refine wpAnyH_take (i := 0) (v := ?_) (by simp only [List.getElem?_toArray, List.getElem?_cons_zero]; rfl) (by kernel_rfl) (by kernel_rfl) (by kernel_rfl) (by intro _ _ _ h; exact h) (Or.inl ⟨by rfl, ?_⟩) hHeld ?_
  rotate_left
  · (intro w hSw; (try dsimp only at hSw); go_simp; try with_reducible rfl)
  try simp only [Act.put, List.setIfInBounds_toArray, List.set_cons_zero, List.set_cons_succ]
  refine wpAnyH_take (i := 1) (v := ?_) (by simp only [List.getElem?_toArray, List.getElem?_cons_zero, List.getElem?_cons_succ]; rfl) (by kernel_rfl) (by kernel_rfl) (by kernel_rfl) (by intro _ _ _ h; exact h) (Or.inl ⟨by rfl, ?_⟩) hHeld ?_
  rotate_left
  · (intro w hSw; (try dsimp only at hSw); go_simp; try with_reducible rfl)
  try simp only [Act.put, List.setIfInBounds_toArray, List.set_cons_zero, List.set_cons_succ]
  refine wpAnyH_take (i := 2) (v := ?_) (by simp only [List.getElem?_toArray, List.getElem?_cons_zero, List.getElem?_cons_succ]; rfl) (by kernel_rfl) (by kernel_rfl) (by kernel_rfl) (by intro _ _ _ h; exact h) (Or.inl ⟨by rfl, ?_⟩) hHeld ?_
  rotate_left
  · (intro w hSw; (try dsimp only at hSw); go_simp; try with_reducible rfl)
  try simp only [Act.put, List.setIfInBounds_toArray, List.set_cons_zero, List.set_cons_succ]
  refine wpAnyH_take (i := 3) (v := ?_) (by simp only [List.getElem?_toArray, List.getElem?_cons_zero, List.getElem?_cons_succ]; rfl) (by kernel_rfl) (by kernel_rfl) (by kernel_rfl) (by intro _ _ _ h; exact h) (Or.inl ⟨by rfl, ?_⟩) hHeld ?_
  rotate_left
  · (intro w hSw; (try dsimp only at hSw); go_simp; try with_reducible rfl)
  try simp only [Act.put, List.setIfInBounds_toArray, List.set_cons_zero, List.set_cons_succ]
  refine wpAnyH_take (i := 4) (v := ?_) (by simp only [List.getElem?_toArray, List.getElem?_cons_zero, List.getElem?_cons_succ]; rfl) (by kernel_rfl) (by kernel_rfl) (by kernel_rfl) (by intro _ _ _ h; exact h) (Or.inl ⟨by rfl, ?_⟩) hHeld ?_
  rotate_left
  · (intro w hSw; (try dsimp only at hSw); go_simp; try with_reducible rfl)
  try simp only [Act.put, List.setIfInBounds_toArray, List.set_cons_zero, List.set_cons_succ]
  refine wpAnyH_take (i := 5) (v := ?_) (by simp only [List.getElem?_toArray, List.getElem?_cons_zero, List.getElem?_cons_succ]; rfl) (by kernel_rfl) (by kernel_rfl) (by kernel_rfl) (by intro _ _ _ h; exact h) (Or.inl ⟨by rfl, ?_⟩) hHeld ?_
  rotate_left
  · (intro w hSw; (try dsimp only at hSw); go_simp; try with_reducible rfl)
  try simp only [Act.put, List.setIfInBounds_toArray, List.set_cons_zero, List.set_cons_succ]
  refine wpAnyH_take (i := 6) (v := ?_) (by simp only [List.getElem?_toArray, List.getElem?_cons_zero, List.getElem?_cons_succ]; rfl) (by kernel_rfl) (by kernel_rfl) (by kernel_rfl) (by intro _ _ _ h; exact h) (Or.inl ⟨by rfl, ?_⟩) hHeld ?_
  rotate_left
  · (intro w hSw; (try dsimp only at hSw); go_simp; try with_reducible rfl)
  try simp only [Act.put, List.setIfInBounds_toArray, List.set_cons_zero, List.set_cons_succ]
  refine wpAnyH_take (i := 7) (v := ?_) (by simp only [List.getElem?_toArray, List.getElem?_cons_zero, List.getElem?_cons_succ]; rfl) (by kernel_rfl) (by kernel_rfl) (by kernel_rfl) (by intro _ _ _ h; exact h) (Or.inl ⟨by rfl, ?_⟩) hHeld ?_
  rotate_left
  · (intro w hSw; (try dsimp only at hSw); go_simp; try with_reducible rfl)
  try simp only [Act.put, List.setIfInBounds_toArray, List.set_cons_zero, List.set_cons_succ]
  refine wpAnyH_take (i := 8) (v := _) (by simp only [List.getElem?_toArray, List.getElem?_cons_zero, List.getElem?_cons_succ]; rfl) (by kernel_rfl) (by kernel_rfl) (by kernel_rfl) (by intro _ _ _ h; exact h) (yieldsIf_load_mid (by rfl) 33 (.tmp 5) rfl q 0 rfl cs _ (fun _ h => h.2) Tryz.underlying33 rfl HSZ.out) hHeld ?_
  try simp only [Act.put, List.setIfInBounds_toArray, List.set_cons_zero, List.set_cons_succ]
  refine wpAnyH_take (i := 9) (v := ?_) (by simp only [List.getElem?_toArray, List.getElem?_cons_zero, List.getElem?_cons_succ]; rfl) (by kernel_rfl) (by kernel_rfl) (by kernel_rfl) (by intro _ _ _ h; exact h) (Or.inl ⟨by rfl, ?_⟩) hHeld ?_
  rotate_left
  · (intro w hSw; (try dsimp only at hSw); go_simp; try with_reducible rfl)
  try simp only [Act.put, List.setIfInBounds_toArray, List.set_cons_zero, List.set_cons_succ]
  refine wpAnyH_ready (rs := [10]) (by kernel_rfl) (by simp) ?_
  refine AllReadyH.cons (by simp only [List.getElem?_toArray, List.getElem?_cons_zero, List.getElem?_cons_succ]; rfl) (fun K hK => ?_) AllReadyH.nil
  rw [if_pos (by rfl)]
  refine wp_store_segK 33 (.tmp 35) (.tmp 34) rfl b (u * 34) rfl cs rfl cur 33 HC.out HSZ.out (by rw [HL.out]; exact HLN.out) HO.out (fun w4 h4 k4 s4 => ?_)
  have M4 := Lib.hid (HBV.out w4 k4 (by rw [← HCS.out HOK.out]; exact h4))
  have S4 := Lib.hid (HT.out w4 k4)
  clear h4 k4 s4
  refine hK.out _ _ S4.out (fun hHeld => ?_)
  clear hK K
  try simp only [Act.put, List.setIfInBounds_toArray, List.set_cons_zero, List.set_cons_succ]
  refine wpAnyH_done (by kernel_rfl) ?_ _
  clear hHeld
  go_wp2_with fail
  go_ret
  exact ⟨ret_int HE.out.1.symm, by rw [HE.out.2]; exact ⟨⟨g, cap, V, M4.out.1⟩, (KR.fresh (B2.out.trans (below_drewN (Below.refl _ _) 1))).trans M4.out.2⟩⟩
end Go.Proofs.YtodhaaaodmcplaaGreat
