/- Layer 23 (maps): Snap, Drop and Back. -/
import Derived.Test.YtodhaaaodmcplaaGreatNh
set_option linter.all false
namespace Go.Proofs.YtodhaaaodmcplaaGreat
open Go.RowKit Go.Maps Go.WideMaps
theorem snapL_none {A : Int → Nat} {L : List (Int × Mp1)} {id : Int} (h : findS id L = none) : (if false then Value.tuple #[(snapL A L id).getD (.pointer none), .bool (snapL A L id).isSome] else (snapL A L id).getD (.pointer none)) = .pointer none := by
  unfold snapL
  rw [h]; rfl
theorem snapL_some {A : Int → Nat} {L : List (Int × Mp1)} {id : Int} {F : Mp1} (h : findS id L = some F) : (if false then Value.tuple #[(snapL A L id).getD (.pointer none), .bool (snapL A L id).isSome] else (snapL A L id).getD (.pointer none)) = .pointer (some ⟨A id, 0, none⟩) := by
  unfold snapL
  rw [h]; rfl
theorem snap_two {st : MS} {id : Int} (h : id < 1 ∨ 1073741824 < id) : snapE st id = 2 ∧ snapM st id = st := by
  have e : snapE st id = 2 := if_pos h
  refine ⟨e, ?_⟩
  unfold snapM
  rw [e]; rfl
theorem snap_seven {st : MS} {id : Int} {F : Mp1} (h : ¬ (id < 1 ∨ 1073741824 < id)) (hf : findS id st.snaps = some F) : snapE st id = 7 ∧ snapM st id = st := by
  have e : snapE st id = 7 := by
    unfold snapE
    rw [if_neg h, hf]; rfl
  refine ⟨e, ?_⟩
  unfold snapM
  rw [e]; rfl
theorem snap_full {st : MS} {id : Int} (h : ¬ (id < 1 ∨ 1073741824 < id)) (hf : findS id st.snaps = none) (h8 : 8 ≤ st.snaps.length) : snapE st id = 14 ∧ snapM st id = st := by
  have e : snapE st id = 14 := by
    unfold snapE
    rw [if_neg h, hf]
    exact if_pos h8
  refine ⟨e, ?_⟩
  unfold snapM
  rw [e]; rfl
theorem snap_ok {st : MS} {id : Int} (h : ¬ (id < 1 ∨ 1073741824 < id)) (hf : findS id st.snaps = none) (h8 : ¬ 8 ≤ st.snaps.length) : snapE st id = 0 ∧ snapM st id = { st with snaps := insS id st.now st.snaps } := by
  have e : snapE st id = 0 := by
    unfold snapE
    rw [if_neg h, hf]
    exact if_neg h8
  refine ⟨e, ?_⟩
  unfold snapM
  rw [e]; rfl
theorem drop_none {st : MS} {id : Int} (h : findS id st.snaps = none) : dropE st id = 13 ∧ dropM st id = st := by
  unfold dropE dropM
  rw [h, List.filter_eq_self.2 fun x hx => by simpa using find_none.1 h x hx]
  exact ⟨rfl, rfl⟩
theorem drop_some {st : MS} {id : Int} {F : Mp1} (h : findS id st.snaps = some F) : dropE st id = 0 := by
  unfold dropE
  rw [h]; rfl
theorem back_none {st : MS} {id : Int} (h : findS id st.snaps = none) : backM st id = st := by
  unfold backM
  rw [h]
theorem back_some {st : MS} {id : Int} {F : Mp1} (h : findS id st.snaps = some F) : backM st id = { st with now := F } := by
  unfold backM
  rw [h]
theorem del_length {id : Int} {F : Mp1} : ∀ {L : List (Int × Mp1)}, L.Pairwise (fun a b => a.1 < b.1) → findS id L = some F → (L.filter fun x => decide (x.1 ≠ id)).length + 1 = L.length
  | [], _, h => by cases h
  | x :: L, hp, h => by
    obtain ⟨h1, h2⟩ := List.pairwise_cons.1 hp
    unfold findS at h
    rw [List.filter_cons]
    by_cases e : x.1 = id
    · rw [if_neg (by simp [e]), List.filter_eq_self.2 fun y hy => by
        have := h1 y hy
        simp
        omega]
      rfl
    · rw [if_neg e] at h
      rw [if_pos (by simp [e]), List.length_cons, List.length_cons, del_length h2 h]
/-- A snapshot more. -/
theorem Mx.put {n0 : Nat} {w w2 w3 : World} {p mb b : Nat} {st : MS} {A : Int → Nat} {id : Int} {c : Nat} {L : Int → Option Value} (h : Mx n0 w p mb st A) (hid : ¬ (id < 1 ∨ 1073741824 < id)) (hf : findS id st.snaps = none) (h8 : ¬ 8 ≤ st.snaps.length) (hbw : Below w.heap.size w w2) (hb : b = w.heap.size) (h2 : w2.heap[b]? = some (.cells (oneL st.now).toArray 51 (0, 0)))
    (hg : Gm Tryz.prog w3 TI okP mb c L) (hc : c = if (snapL A st.snaps id).isSome then st.snaps.length else st.snaps.length + 1) (hL : L = fun z => if z = id then some (.pointer (some ⟨b, 0, none⟩)) else snapL A st.snaps z) (hk : w2.grownBy w3 (some mb)) : OutM n0 w w3 p mb (snapM st id) := by
  have H2 := h.go hbw
  have hlt := h.lt
  have hk3 : Keeps (fun k => k = mb) w2 w3 := Keeps.grown hk fun k e => by injection e with e; exact e.symm
  rw [(snap_ok hid hf h8).2]
  have hi := inv_snap h.inv id
  rw [(snap_ok hid hf h8).2] at hi
  refine outM hbw hk3 (fun k e => .inr e) ⟨fun x => if x = id then b else A x, hk3.heap H2.blk h.ne, ?_, fun x F hx => ?_, hi, h.lp, h.lm⟩
  · have hcl : c = (insS id st.now st.snaps).length := by
      rw [hc, ins_len]
      unfold snapL
      rw [hf]; rfl
    show Gm Tryz.prog w3 TI okP mb (insS id st.now st.snaps).length (snapL _ (insS id st.now st.snaps))
    rw [← hcl]
    refine hg.congr fun x _ => ?_
    rw [hL]
    show (if x = id then _ else _) = Option.map _ (findS x (insS id st.now st.snaps))
    by_cases e : x = id
    · subst e
      rw [if_pos rfl, find_ins_same (find_none.1 hf)]
      simp
    · rw [if_neg e, find_ins_other e]
      unfold snapL
      simp [e]
  · have hx' : findS x (insS id st.now st.snaps) = some F := hx
    by_cases e : x = id
    · subst e
      rw [find_ins_same (find_none.1 hf)] at hx'
      injection hx' with hx'
      subst hx'
      show w3.heap[if x = x then b else A x]? = _ ∧ n0 ≤ if x = x then b else A x
      rw [if_pos rfl]
      exact ⟨hk3.heap h2 (by omega), by have := h.lp; omega⟩
    · rw [find_ins_other e] at hx'
      show w3.heap[if x = id then b else A x]? = _ ∧ n0 ≤ if x = id then b else A x
      rw [if_neg e]
      have := H2.snap x F hx'
      exact ⟨hk3.heap this.1 (gm_ne this.1 H2.map), this.2⟩
/-- A snapshot less. -/
theorem Mx.del {n0 : Nat} {w w3 : World} {p mb : Nat} {st : MS} {A : Int → Nat} {id : Int} {F : Mp1} {c : Nat} {L : Int → Option Value} (h : Mx n0 w p mb st A) (hf : findS id st.snaps = some F)
    (hg : Gm Tryz.prog w3 TI okP mb c L) (hc : c = if (snapL A st.snaps id).isSome then st.snaps.length - 1 else st.snaps.length) (hL : L = fun z => if z = id then none else snapL A st.snaps z) (hk : w.grownBy w3 (some mb)) : OutM n0 w w3 p mb (dropM st id) := by
  have hk3 : Keeps (fun k => k = mb) w w3 := Keeps.grown hk fun k e => by injection e with e; exact e.symm
  refine outM (Below.refl _ _) hk3 (fun k e => .inr e) ⟨A, hk3.heap h.blk h.ne, ?_, fun x G hx => ?_, inv_drop h.inv id, h.lp, h.lm⟩
  · have hcl : c = (dropM st id).snaps.length := by
      have := del_length h.inv.rise hf
      rw [hc]
      unfold snapL
      rw [hf]
      show st.snaps.length - 1 = (st.snaps.filter fun x => decide (x.1 ≠ id)).length
      omega
    rw [← hcl]
    refine hg.congr fun x _ => ?_
    rw [hL]
    show (if x = id then _ else _) = Option.map _ (findS x (st.snaps.filter fun x => decide (x.1 ≠ id)))
    by_cases e : x = id
    · subst e
      rw [if_pos rfl, find_del_same]
      rfl
    · rw [if_neg e, find_del_other e]
      rfl
  · have hx' : findS x (st.snaps.filter fun x => decide (x.1 ≠ id)) = some G := hx
    by_cases e : x = id
    · subst e
      rw [find_del_same] at hx'
      cases hx'
    · rw [find_del_other e] at hx'
      have := h.snap x G hx'
      exact ⟨hk3.heap this.1 (gm_ne this.1 h.map), this.2⟩
set_option maxRecDepth 100000 in
set_option maxHeartbeats 2000000 in
theorem snap_p {n0 : Nat} {w : World} {p mb : Nat} {st : MS} (h : Ms n0 w p mb st) (id : Int) (hid : (Lit.int .i64 id).wf = true) : Calls Tryz.prog 20 #[.pointer (some ⟨p, 0, none⟩), .int .i64 id] w fun e w' => e = .returned (.int .i64 (snapE st id)) ∧ OutM n0 w w' p mb (snapM st id) := by
  have HS := Lib.hid h
  obtain ⟨A, hx⟩ := h
  have H1 := Lib.hid hx
  have cm := hx.map_cell
  have HW := Lib.hid hid
  have HO := Lib.hid (oneL_one st.now)
  clear hx hid
  go_enter Tryz.func20, Tryz.ntmps20
  go_wp2_with fail
  refine (known_y H1.out).mono ?_
  rintro e _ ⟨rfl, rfl⟩
  go_upto_region 3 with fail
  by_cases h0 : id < 1
  · have d0 : decide (id < 1) = true := by simpa using h0
    have HE := Lib.hid (snap_two (st := st) (.inl h0))
    go_wp2_with fail
    go_ret
    exact ⟨ret_int HE.out.1.symm, by rw [HE.out.2]; exact ⟨HS.out, Keeps.refl _ _⟩⟩
  have d0 : decide (id < 1) = false := by simpa using h0
  by_cases h1 : 1073741824 < id
  · have d1 : decide (1073741824 < id) = true := by simpa using h1
    have HE := Lib.hid (snap_two (st := st) (.inr h1))
    go_wp2_with fail
    go_ret
    exact ⟨ret_int HE.out.1.symm, by rw [HE.out.2]; exact ⟨HS.out, Keeps.refl _ _⟩⟩
  have d1 : decide (1073741824 < id) = false := by simpa using h1
  have HID : Hid (¬ (id < 1 ∨ 1073741824 < id)) := Lib.hid (by omega)
  rcases hf : findS id st.snaps with _ | F
  rotate_left
  · have HE := Lib.hid (snap_seven HID.out hf)
    have HV := Lib.hid (snapL_some (A := A) hf)
    obtain ⟨pa, hpa⟩ : ∃ pa, pa = A id := ⟨_, rfl⟩
    rw [← hpa] at HV
    clear hf hpa
    go_wp2_with (refine wpList_gm_look (T := TI) rfl (.tmp 21) (.tmp 22) 49 70 false rfl H1.out.map Tryz.underlying49 (z := .pointer none) rfl rfl id rfl HW.out _ HV.out ?_)
    go_ret
    exact ⟨ret_int HE.out.1.symm, by rw [HE.out.2]; exact ⟨HS.out, Keeps.refl _ _⟩⟩
  have HV := Lib.hid (snapL_none (A := A) hf)
  have HF := Lib.hid hf
  clear hf
  obtain ⟨k, hk⟩ : ∃ k, k = st.snaps.length := ⟨_, rfl⟩
  have HKL := Lib.hid hk
  have HMP : Hid (Gm Tryz.prog w TI okP mb k (snapL A st.snaps)) := Lib.hid (by rw [hk]; exact H1.out.map)
  by_cases h8 : 8 ≤ k
  · have d8 : decide (8 ≤ k) = true := by simpa using h8
    have d9 : decide ((8 : Int) ≤ (k : Int)) = true := by simp; omega
    have HE := Lib.hid (snap_full HID.out HF.out (by omega))
    clear hk
    go_wp2_with (first | (refine wpList_gm_look (T := TI) rfl (.tmp 21) (.tmp 22) 49 70 false rfl H1.out.map Tryz.underlying49 (z := .pointer none) rfl rfl id rfl HW.out _ HV.out ?_) | (refine wpList_gm_len rfl (.tmp 29) 49 70 rfl HMP.out Tryz.underlying49 rfl ?_))
    go_ret
    exact ⟨ret_int HE.out.1.symm, by rw [HE.out.2]; exact ⟨HS.out, Keeps.refl _ _⟩⟩
  have d8 : decide (8 ≤ k) = false := by simpa using h8
  have d9 : decide ((8 : Int) ≤ (k : Int)) = false := by simp; omega
  have HE := Lib.hid (snap_ok HID.out HF.out (by omega))
  have H8 : Hid (¬ 8 ≤ st.snaps.length) := Lib.hid (by omega)
  clear hk h8
  go_upto_region 9 with (first | (refine wpList_gm_look (T := TI) rfl (.tmp 21) (.tmp 22) 49 70 false rfl H1.out.map Tryz.underlying49 (z := .pointer none) rfl rfl id rfl HW.out _ HV.out ?_) | (refine wpList_gm_len rfl (.tmp 29) 49 70 rfl HMP.out Tryz.underlying49 rfl ?_))
  obtain ⟨b, hb⟩ : ∃ b, b = w.heap.size := ⟨_, rfl⟩
  have HB := Lib.hid hb
  have HLL : Hid ((oneL F0).length = (oneL st.now).length) := Lib.hid (by rw [oneL_len, oneL_len])
  go_upto_region 10 with (first | (refine wpList_load_midG rfl 51 (.tmp 34) rfl p 1 rfl (oneL st.now) _ H1.out.now_at Tryz.underlying51 rfl (sizeOne _) ?_) | (refine wpList_boxed rfl 51 5 rfl rfl (oneL F0) (zeroVOne _) (.tmp 35) rfl rfl rfl (oneL st.now) rfl rfl (sizeOne _) HLL.out HO.out ?_; intro w2 b2 h2 s2))
  rw [← hb] at h2 ⊢
  have B2 := Lib.hid b2
  have Q2 := Lib.hid h2
  have HM2 : Hid (Gm Tryz.prog w2 TI okP mb k (snapL A st.snaps)) := Lib.hid (HMP.out.keeps (b2.block mb H1.out.lt.2))
  have cm : w2.cell? ⟨p, 17409, none⟩ = some (.map (some mb)) := (H1.out.go b2).map_cell
  have HKM : Hid (k < maxLen) := Lib.hid (by have h1 := H8.out; have h2 := HKL.out; unfold maxLen; omega)
  clear b2 h2 s2 hb d0 d1 d8 d9
  go_wp2_with (refine wpList_gm_put (T := TI) rfl (.tmp 39) (.tmp 40) (.tmp 5) 49 70 rfl HM2.out Tryz.underlying49 HKM.out rfl id rfl HW.out (.pointer (some ⟨b, 0, none⟩)) rfl ⟨b, rfl⟩ ?_; intro w3 g3 k3; have G3 := Lib.hid g3; have K3 := Lib.hid k3; clear g3 k3)
  go_ret
  exact ⟨ret_int HE.out.1.symm, H1.out.put HID.out HF.out H8.out B2.out HB.out Q2.out G3.out (by rw [HKL.out]) rfl K3.out⟩
set_option maxRecDepth 100000 in
set_option maxHeartbeats 2000000 in
theorem drop_p {n0 : Nat} {w : World} {p mb : Nat} {st : MS} (h : Ms n0 w p mb st) (id : Int) (hid : (Lit.int .i64 id).wf = true) : Calls Tryz.prog 24 #[.pointer (some ⟨p, 0, none⟩), .int .i64 id] w fun e w' => e = .returned (.int .i64 (dropE st id)) ∧ OutM n0 w w' p mb (dropM st id) := by
  have HS := Lib.hid h
  obtain ⟨A, hx⟩ := h
  have H1 := Lib.hid hx
  have cm := hx.map_cell
  have HW := Lib.hid hid
  clear hx hid
  go_enter Tryz.func24, Tryz.ntmps24
  go_wp2_with fail
  refine (known_y H1.out).mono ?_
  rintro e _ ⟨rfl, rfl⟩
  rcases hf : findS id st.snaps with _ | F
  · have HE := Lib.hid (drop_none hf)
    have HV := Lib.hid (snapL_none (A := A) hf)
    clear hf
    go_wp2_with (refine wpList_gm_look (T := TI) rfl (.tmp 13) (.tmp 14) 49 70 false rfl H1.out.map Tryz.underlying49 (z := .pointer none) rfl rfl id rfl HW.out _ HV.out ?_)
    go_ret
    exact ⟨ret_int HE.out.1.symm, by rw [HE.out.2]; exact ⟨HS.out, Keeps.refl _ _⟩⟩
  · have HE := Lib.hid (drop_some hf)
    have HV := Lib.hid (snapL_some (A := A) hf)
    have HF := Lib.hid hf
    obtain ⟨pa, hpa⟩ : ∃ pa, pa = A id := ⟨_, rfl⟩
    rw [← hpa] at HV
    clear hf hpa
    go_wp2_with (first | (refine wpList_gm_look (T := TI) rfl (.tmp 13) (.tmp 14) 49 70 false rfl H1.out.map Tryz.underlying49 (z := .pointer none) rfl rfl id rfl HW.out _ HV.out ?_) | (refine wpList_gm_del (T := TI) rfl (.tmp 20) (.tmp 21) 49 70 rfl H1.out.map Tryz.underlying49 rfl id rfl HW.out ?_; intro w3 g3 k3; have G3 := Lib.hid g3; have K3 := Lib.hid k3; clear g3 k3))
    go_ret
    exact ⟨ret_int HE.out.symm, H1.out.del HF.out G3.out rfl rfl K3.out⟩
set_option maxRecDepth 100000 in
set_option maxHeartbeats 2000000 in
theorem back_p {n0 : Nat} {w : World} {p mb : Nat} {st : MS} (h : Ms n0 w p mb st) (id : Int) (hid : (Lit.int .i64 id).wf = true) : Calls Tryz.prog 23 #[.pointer (some ⟨p, 0, none⟩), .int .i64 id] w fun e w' => e = .returned (.int .i64 (dropE st id)) ∧ OutM n0 w w' p mb (backM st id) := by
  have HS := Lib.hid h
  obtain ⟨A, hx⟩ := h
  have H1 := Lib.hid hx
  have cm := hx.map_cell
  have HW := Lib.hid hid
  clear hx hid
  go_enter Tryz.func23, Tryz.ntmps23
  go_wp2_with fail
  refine (known_y H1.out).mono ?_
  rintro e _ ⟨rfl, rfl⟩
  rcases hf : findS id st.snaps with _ | F
  · have HE := Lib.hid (And.intro (drop_none hf).1 (back_none hf))
    have HV := Lib.hid (snapL_none (A := A) hf)
    clear hf
    go_wp2_with (refine wpList_gm_look (T := TI) rfl (.tmp 13) (.tmp 14) 49 70 false rfl H1.out.map Tryz.underlying49 (z := .pointer none) rfl rfl id rfl HW.out _ HV.out ?_)
    go_ret
    exact ⟨ret_int HE.out.1.symm, by rw [HE.out.2]; exact ⟨HS.out, Keeps.refl _ _⟩⟩
  · have HE := Lib.hid (And.intro (drop_some hf) (back_some hf))
    have HV := Lib.hid (snapL_some (A := A) hf)
    have HF := Lib.hid hf
    have HA := Lib.hid (H1.out.snap_at hf)
    have HO := Lib.hid (oneL_one F)
    obtain ⟨pa, hpa⟩ : ∃ pa, pa = A id := ⟨_, rfl⟩
    rw [← hpa] at HV HA
    clear hf hpa
    go_wp2_with (first | (refine wpList_gm_look (T := TI) rfl (.tmp 13) (.tmp 14) 49 70 false rfl H1.out.map Tryz.underlying49 (z := .pointer none) rfl rfl id rfl HW.out _ HV.out ?_) | (refine wpList_gm_look (T := TI) rfl (.tmp 21) (.tmp 22) 49 70 false rfl H1.out.map Tryz.underlying49 (z := .pointer none) rfl rfl id rfl HW.out _ HV.out ?_) | (refine wpList_load_midG rfl 51 (.tmp 24) rfl pa 0 rfl (oneL F) _ HA.out Tryz.underlying51 rfl (sizeOne _) ?_) | (refine wpList_store_segK rfl 51 (.tmp 27) (.tmp 25) rfl p 1 rfl (oneL F) rfl (mxL st.n st.now (.map (some mb))) 53 H1.out.blk (sizeOne _) (by rw [oneL_len, mxL_len]; omega) HO.out rfl ?_; intro w4 h4 k4 s4; have M4 : Hid (OutM n0 w w4 p mb { st with now := F }) := Lib.hid (outM (Below.refl _ _) k4 (fun _ e => .inl e) ⟨A, H1.out.turn k4 (fun _ e => e) (by rw [h4, mxL_all])⟩); clear h4 k4 s4))
    go_ret
    exact ⟨ret_int HE.out.1.symm, by rw [HE.out.2]; exact M4.out⟩
end Go.Proofs.YtodhaaaodmcplaaGreat
