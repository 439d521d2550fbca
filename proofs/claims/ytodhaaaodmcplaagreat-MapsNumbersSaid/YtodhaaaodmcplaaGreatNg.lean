/- Layer 23 (maps): Get; the law's mask. Printed by genNg.py. -/
import Derived.Test.YtodhaaaodmcplaaGreatMf
set_option linter.all false
namespace Go.Proofs.YtodhaaaodmcplaaGreat
open Go.RowKit Go.Maps Go.WideMaps
theorem sizeZ : (Tryz.prog.info? 33).map (·.size) = some zS.length := infoSl
def getR (st : MS) (id un : Int) : Value := .tuple #[.agg (slcC ((getM st id un).getD sl0)).toArray, .bool (getM st id un).isSome]
theorem getR_none {st : MS} {id un : Int} (h : getM st id un = none) : getR st id un = .tuple #[.agg zS.toArray, .bool false] := by
  unfold getR
  rw [h]; rfl
theorem getR_some {st : MS} {id un : Int} {s : Slc} (h : getM st id un = some s) : getR st id un = .tuple #[.agg (slcC s).toArray, .bool true] := by
  unfold getR
  rw [h]; rfl
theorem getM_out {st : MS} {id un : Int} (h : un < 0 ∨ (st.n : Int) ≤ un) : getM st id un = none := by
  unfold getM
  cases ofM st id with
  | none => rfl
  | some F => exact if_neg (by omega)
theorem getM_none {st : MS} {id un : Int} (h : ofM st id = none) : getM st id un = none := by
  unfold getM
  rw [h]; rfl
theorem getM_zero {st : MS} {id : Int} {u : Nat} {F : Mp1} (h : ofM st id = some F) (h0 : (F u).1.m = 0) : getM st id u = none := by
  unfold getM
  rw [h]
  exact if_neg fun hx => hx.2.2 h0
theorem getM_at {st : MS} {id : Int} {u : Nat} {F : Mp1} (h : ofM st id = some F) (hu : u < st.n) (h0 : (F u).1.m ≠ 0) : getM st id u = some (F u) := by
  unfold getM
  rw [h]
  exact if_pos ⟨by omega, by omega, h0⟩
set_option maxRecDepth 100000 in
set_option maxHeartbeats 1000000 in
theorem get_p {n0 : Nat} {w : World} {p mb : Nat} {st : MS} (h : Ms n0 w p mb st) (id un : Int) (hid : (Lit.int .i64 id).wf = true) : Calls Tryz.prog 15 #[.pointer (some ⟨p, 0, none⟩), .int .i64 id, .int .i64 un] w fun e w' => e = .returned (getR st id un) ∧ Below w.heap.size w w' := by
  obtain ⟨A, hx⟩ := h
  have H := Lib.hid hx
  have HW := Lib.hid hid
  have HZO := Lib.hid (oneC sl0)
  clear hx hid
  go_enter Tryz.func15, Tryz.ntmps15
  go_upto_region 1 with (refine wpList_laid rfl 33 rfl zS (zeroVS _) ?_)
  obtain ⟨q, hq⟩ : ∃ q, q = w.heap.size := ⟨_, rfl⟩
  obtain ⟨w1, hw1⟩ : ∃ z, z = w.alloc (.cells zS.toArray 33) := ⟨_, rfl⟩
  have B1 : Hid (Below w.heap.size w w1) := Lib.hid (by rw [hw1]; exact (Below.refl _ _).alloc (Nat.le_refl _) _)
  have Q1 : Hid (w1.heap[q]? = some (.cells zS.toArray 33 (0, 0))) := Lib.hid (by rw [hw1, hq]; exact heap_new w _)
  have H1 : Hid (Mx n0 w1 p mb st A) := Lib.hid (H.out.go B1.out)
  rw [← hw1, ← hq]
  have HQ := Lib.hid hq
  clear hw1 hq H
  have cn := H1.out.n_cell
  have hn := H1.out.inv.n
  have HN : Hid (st.n = st.n) := Lib.hid rfl
  obtain ⟨n, hn1⟩ : ∃ n, n = st.n := ⟨_, rfl⟩
  rw [← hn1] at cn hn
  by_cases hu0 : un < 0
  · have HR := Lib.hid (getR_none (getM_out (st := st) (id := id) (.inl hu0)))
    have d1 : decide (un < 0) = true := by simpa using hu0
    clear hn hn1
    go_wp2_with fail
    refine (known_y H1.out).mono ?_
    rintro e _ ⟨rfl, rfl⟩
    go_wp2_with (first | (refine wpList_buildG rfl 33 [] rfl [] rfl _ (buildS0 _) ?_) | (refine wpList_store_segK rfl 33 (.tmp 6) (.tmp 24) rfl q 0 rfl zS rfl zS 33 Q1.out sizeZ (Nat.le_refl _) HZO.out rfl ?_; intro w2 h2 k2 s2))
    rw [splice_whole _ _ (by rfl)] at h2
    refine bodyPost_ret (results_cell_mid rfl _ _ q zS _ rfl (range_of h2) Tryz.underlying33 rfl sizeZ) rfl ?_
    refine ⟨by rw [HR.out]; rfl, B1.out.trans (k2.below (fun k hk => by rw [hk, HQ.out]; exact Nat.le_refl _) B1.out.size)⟩
  have d1 : decide (un < 0) = false := by simpa using hu0
  by_cases hu1 : (n : Int) ≤ un
  · have HR := Lib.hid (getR_none (getM_out (st := st) (id := id) (un := un) (.inr (by omega))))
    have d2 : decide ((n : Int) ≤ un) = true := by simpa using hu1
    clear hn hn1
    go_wp2_with fail
    refine (known_y H1.out).mono ?_
    rintro e _ ⟨rfl, rfl⟩
    go_wp2_with (first | (refine wpList_buildG rfl 33 [] rfl [] rfl _ (buildS0 _) ?_) | (refine wpList_store_segK rfl 33 (.tmp 6) (.tmp 24) rfl q 0 rfl zS rfl zS 33 Q1.out sizeZ (Nat.le_refl _) HZO.out rfl ?_; intro w2 h2 k2 s2))
    rw [splice_whole _ _ (by rfl)] at h2
    refine bodyPost_ret (results_cell_mid rfl _ _ q zS _ rfl (range_of h2) Tryz.underlying33 rfl sizeZ) rfl ?_
    refine ⟨by rw [HR.out]; rfl, B1.out.trans (k2.below (fun k hk => by rw [hk, HQ.out]; exact Nat.le_refl _) B1.out.size)⟩
  have d2 : decide ((n : Int) ≤ un) = false := by simpa using hu1
  obtain ⟨u, rfl⟩ : ∃ u : Nat, un = u := ⟨un.toNat, by omega⟩
  have hun : u < st.n := by omega
  have hu5 : u < 512 := by omega
  have HUN := Lib.hid hun
  have HU5 := Lib.hid hu5
  have i1 : (0 : Int) ≤ u := by omega
  have i2 : (u : Int) < 512 := by omega
  have d3 : decide (n ≤ u) = false := by simp; omega
  clear hu0 hu1 hn hn1 hun
  go_wp2_with fail
  refine (known_y H1.out).mono ?_
  rintro e _ ⟨rfl, rfl⟩
  go_wp2_with fail
  refine (of_p H1.out id HW.out).mono ?_
  rintro e _ ⟨rfl, rfl⟩
  rcases ho : ofM st id with _ | F
  · rw [ofP_none ho]
    have HR := Lib.hid (getR_none (getM_none (un := u) ho))
    clear ho
    go_wp2_with (first | (refine wpList_buildG rfl 33 [] rfl [] rfl _ (buildS0 _) ?_) | (refine wpList_store_segK rfl 33 (.tmp 6) (.tmp 39) rfl q 0 rfl zS rfl zS 33 Q1.out sizeZ (Nat.le_refl _) HZO.out rfl ?_; intro w2 h2 k2 s2))
    rw [splice_whole _ _ (by rfl)] at h2
    refine bodyPost_ret (results_cell_mid rfl _ _ q zS _ rfl (range_of h2) Tryz.underlying33 rfl sizeZ) rfl ?_
    refine ⟨by rw [HR.out]; rfl, B1.out.trans (k2.below (fun k hk => by rw [hk, HQ.out]; exact Nat.le_refl _) B1.out.size)⟩
  obtain ⟨b, o, hp, hb, hr⟩ := ofP_some H1.out ho
  rw [hp]
  have hr0 := hr u hu5
  have HR0 := Lib.hid hr0
  have c33 : w1.cell? ⟨b, o + u * 34 + 33, none⟩ = some (.int .i64 (F u).1.m) := hr0 33 _ (slC_at (F u).2.key.len _ _).2
  clear hr hr0 hp hb cn
  by_cases h0 : (F u).1.m = 0
  · have HR := Lib.hid (getR_none (getM_zero ho h0))
    rw [h0] at c33
    clear ho h0 HR0
    go_wp2_with (first | (refine wpList_buildG rfl 33 [] rfl [] rfl _ (buildS0 _) ?_) | (refine wpList_store_segK rfl 33 (.tmp 6) (.tmp 39) rfl q 0 rfl zS rfl zS 33 Q1.out sizeZ (Nat.le_refl _) HZO.out rfl ?_; intro w2 h2 k2 s2))
    rw [splice_whole _ _ (by rfl)] at h2
    refine bodyPost_ret (results_cell_mid rfl _ _ q zS _ rfl (range_of h2) Tryz.underlying33 rfl sizeZ) rfl ?_
    refine ⟨by rw [HR.out]; rfl, B1.out.trans (k2.below (fun k hk => by rw [hk, HQ.out]; exact Nat.le_refl _) B1.out.size)⟩
  · have HR := Lib.hid (getR_some (getM_at ho HUN.out h0))
    obtain ⟨mk, hmk⟩ : ∃ mk, mk = (F u).1.m := ⟨_, rfl⟩
    rw [← hmk] at c33 h0
    have d4 : (mk == 0) = false := by simpa using h0
    have HSZ := Lib.hid (sizeSl (F u))
    have HL := Lib.hid (lenC (F u))
    have HO := Lib.hid (oneC (F u))
    obtain ⟨cs, hcs⟩ : ∃ cs, cs = slcC (F u) := ⟨_, rfl⟩
    rw [← hcs] at HR HSZ HL HO HR0
    clear ho hmk hcs
    go_wp2_with (first | (refine wpList_load_midG rfl 33 (.tmp 43) rfl b (o + u * 34) rfl cs _ HR0.out Tryz.underlying33 rfl HSZ.out ?_) | (refine wpList_store_segK rfl 33 (.tmp 6) (.tmp 44) rfl q 0 rfl cs rfl zS 33 Q1.out HSZ.out (by rw [HL.out, zS_len]; exact Nat.le_refl _) HO.out rfl ?_; intro w2 h2 k2 s2))
    rw [splice_whole _ _ (by rw [HL.out, zS_len])] at h2
    refine bodyPost_ret (results_cell_mid rfl _ _ q cs _ rfl (range_of h2) Tryz.underlying33 rfl HSZ.out) rfl ?_
    refine ⟨by rw [HR.out]; rfl, B1.out.trans (k2.below (fun k hk => by rw [hk, HQ.out]; exact Nat.le_refl _) B1.out.size)⟩
def maskV (st : MS) (id un : Int) : Int := ((getM st id un).getD sl0).1.m
set_option maxRecDepth 100000 in
theorem mask_p {n0 : Nat} {w : World} {p mb : Nat} {st : MS} (h : Ms n0 w p mb st) (id un : Int) (hid : (Lit.int .i64 id).wf = true) : Calls Tryz.prog 22 #[.pointer (some ⟨p, 0, none⟩), .int .i64 id, .int .i64 un] w fun e w' => e = .returned (.int .i64 (maskV st id un)) ∧ Below w.heap.size w w' := by
  have H := Lib.hid h
  have HW := Lib.hid hid
  clear h hid
  go_enter Tryz.func22, Tryz.ntmps22
  go_wp2_with fail
  refine (get_p H.out id un HW.out).mono ?_
  rintro e w1 ⟨rfl, hb⟩
  have B1 := Lib.hid hb
  clear hb
  rcases hg : getM st id un with _ | s
  · rw [getR_none hg]
    have HR : Hid (maskV st id un = 0) := Lib.hid (by unfold maskV; rw [hg]; rfl)
    have HZO := Lib.hid (oneC sl0)
    clear hg
    go_wp2_with (refine wpList_boxed rfl 33 7 rfl rfl zS (zeroVS _) (.tmp 14) rfl rfl rfl zS rfl rfl sizeZ rfl HZO.out ?_; intro w2 b2 h2 s2)
    go_ret
    exact ⟨ret_int HR.out.symm, B1.out.trans (b2.mono B1.out.size)⟩
  · rw [getR_some hg]
    have HR : Hid (maskV st id un = s.1.m) := Lib.hid (by unfold maskV; rw [hg]; rfl)
    have HSZ := Lib.hid (sizeSl s)
    have HL := Lib.hid (lenC s)
    have HO := Lib.hid (oneC s)
    have H33 : Hid ((slcC s)[33]? = some (.int .i64 s.1.m)) := Lib.hid (slC_at s.2.key.len _ _).2
    obtain ⟨mk, hmk⟩ : ∃ mk, mk = s.1.m := ⟨_, rfl⟩
    obtain ⟨cs, hcs⟩ : ∃ cs, cs = slcC s := ⟨_, rfl⟩
    rw [← hcs] at HSZ HL HO H33 ⊢
    rw [← hmk] at HR H33
    clear hg hmk hcs
    obtain ⟨q, hq⟩ : ∃ q, q = w1.heap.size := ⟨_, rfl⟩
    have HQ := Lib.hid hq
    go_upto_region 2 with (refine wpList_boxed rfl 33 7 rfl rfl zS (zeroVS _) (.tmp 14) rfl rfl rfl cs rfl rfl HSZ.out (by rw [HL.out, zS_len]) HO.out ?_; intro w2 b2 h2 s2)
    rw [← hq] at h2 ⊢
    have c33 : w2.cell? ⟨q, 33, none⟩ = some (.int .i64 mk) := by have := range_of h2 33 _ H33.out; rwa [Nat.zero_add] at this
    have B2 := Lib.hid (B1.out.trans (b2.mono B1.out.size))
    clear h2 b2 s2 hq
    go_wp2_with fail
    go_ret
    exact ⟨ret_int HR.out.symm, B2.out⟩
end Go.Proofs.YtodhaaaodmcplaaGreat

