/- Layer 23 (maps): the program's small functions: known, of, New. -/
import Derived.Test.YtodhaaaodmcplaaGreatMe
import Derived.Test.YtodhaaaodmcplaaGreatSeg
import Derived.Great.Ranges
set_option linter.all false
namespace Go.Proofs.YtodhaaaodmcplaaGreat
open Go.RowKit Go.Maps Go.WideMaps
theorem infoSl : (Tryz.prog.info? 33).map (·.size) = some 34 := by kernel_rfl
theorem sizeSl (s : Slc) : (Tryz.prog.info? 33).map (·.size) = some (slcC s).length := by rw [lenC]; exact infoSl
theorem infoOne : (Tryz.prog.info? 51).map (·.size) = some 17408 := by kernel_rfl
theorem sizeOne (F : Mp1) : (Tryz.prog.info? 51).map (·.size) = some (oneL F).length := by rw [oneL_len]; exact infoOne
def zS : List Value := slcC sl0
theorem zS_len : zS.length = 34 := lenC _
theorem zeroVS (u : World) : (zeroValue 33).run Tryz.prog u = .ok (.agg zS.toArray) u := by kernel_rfl
theorem buildS0 (u : World) : BuildRun Tryz.prog 33 #[] u (.agg zS.toArray) := ⟨by kernel_rfl⟩
theorem slC_len {k : List Int} (h : k.length = 32) (o m : Int) : (slC k o m).length = 34 := by simp [slC, u8l_len, h]
theorem slC_one (k : List Int) (o m : Int) : ∀ v ∈ slC k o m, v.oneCell' = true := by
  intro v hv
  simp only [slC, List.mem_append] at hv
  rcases hv with hv | hv
  · exact u8l_one _ v hv
  · simp at hv; rcases hv with rfl | rfl <;> rfl
theorem slC_at {k : List Int} (h : k.length = 32) (o m : Int) : (slC k o m)[32]? = some (.int .i64 o) ∧ (slC k o m)[33]? = some (.int .i64 m) := by
  unfold slC
  constructor <;> rw [List.getElem?_append_right (by rw [u8l_len, h]; omega), u8l_len, h] <;> rfl
/-- A map's noughts. -/
theorem flat_rep (x : List Value) : ∀ n, flatS (fun _ => x) n = (List.replicate n x).flatten
  | 0 => rfl
  | n + 1 => by
    rw [List.replicate_succ', List.flatten_append, ← flat_rep x n]
    simp [flatS]
theorem oneL_zero : oneL F0 = (List.replicate 512 zS).flatten := by
  rw [oneL_eq]
  exact flat_rep zS 512
set_option maxRecDepth 1000000 in
theorem zero1 : ((Tryz.prog.info? 51).bind (·.zero)).map (fun v => v.cells.toList) = some ((List.replicate 512 (List.replicate 32 (Value.int .u8 0) ++ [.int .i64 0, .int .i64 0])).flatten) := by kernel_rfl
theorem zero1a : ((Tryz.prog.info? 51).bind (·.zero)).map (fun v => match v with | .agg _ => true | _ => false) = some true := by kernel_rfl
set_option maxRecDepth 1000000 in
theorem zeroM : ((Tryz.prog.info? 53).bind (·.zero)).map (fun v => v.cells.toList) = some ([Value.int .i64 0] ++ ((List.replicate 512 (List.replicate 32 (Value.int .u8 0) ++ [.int .i64 0, .int .i64 0])).flatten ++ [.map none])) := by kernel_rfl
theorem zeroMa : ((Tryz.prog.info? 53).bind (·.zero)).map (fun v => match v with | .agg _ => true | _ => false) = some true := by kernel_rfl
theorem zS_is : zS = List.replicate 32 (Value.int .u8 0) ++ [.int .i64 0, .int .i64 0] := rfl
theorem zero_of {P : Program} {t : TypeId} {l : List Value} (h : ((P.info? t).bind (·.zero)).map (fun v => v.cells.toList) = some l) (h2 : ((P.info? t).bind (·.zero)).map (fun v => match v with | .agg _ => true | _ => false) = some true) (u : World) : (zeroValue t).run P u = .ok (.agg l.toArray) u := by
  cases hq : P.info? t with
  | none => rw [hq] at h; cases h
  | some i =>
    rw [hq] at h h2
    cases hz : i.zero with
    | none => simp [hz] at h
    | some v =>
      simp only [Option.bind_some, hz, Option.map_some, Option.some.injEq] at h h2
      have hv : v = .agg l.toArray := by
        cases v <;> first | cases h2 | skip
        subst h
        rfl
      simp [zeroValue, typeInfo, hq, hz, hv]
theorem zeroVOne (u : World) : (zeroValue 51).run Tryz.prog u = .ok (.agg (oneL F0).toArray) u := by
  rw [oneL_zero, zS_is]
  exact zero_of zero1 zero1a u
theorem zeroVMx (u : World) : (zeroValue 53).run Tryz.prog u = .ok (.agg (mxL 0 F0 (.map none)).toArray) u := by
  unfold mxL
  rw [oneL_zero, zS_is]
  exact zero_of zeroM zeroMa u
theorem mxL_setN (n m : Int) (F : Mp1) (v : Value) : (mxL n F v).set 0 (.int .i64 m) = mxL m F v := rfl
theorem mxL_setV (n : Int) (F : Mp1) (v u : Value) : (mxL n F v).set 17409 u = mxL n F u := by
  unfold mxL
  rw [List.set_append, if_neg (by simp), List.set_append, if_neg (by rw [oneL_len]; simp)]
  simp [oneL_len]
theorem build_of {P : Program} {t : TypeId} {z : List Value} {places : List (Nat × Nat)} (h1 : ((P.underlying t).bind fun d => match d with | .struct fs => fs.toList.mapM (fun f => (P.info? f.type).map fun i => (f.offset, i.size)) | _ => none) = some places)
    (h2 : ((P.info? t).bind (·.zero)).map (fun v => v.cells.toList) = some z) (parts : List (Nat × Value)) (cells : List Value) (h3 : Instr.fill (places.toArray[·]?) z.toArray parts = some cells.toArray) (u : World) : (Instr.build t parts.toArray).run P u = .ok (.agg cells.toArray) u := by
  refine run_build u t parts.toArray cells.toArray ?_
  cases hu : P.underlying t with
  | none => rw [hu] at h1; cases h1
  | some d =>
    cases hq : P.info? t with
    | none => rw [hq] at h2; cases h2
    | some i =>
      rw [hu] at h1
      rw [hq] at h2
      cases hz : i.zero with
      | none => simp [hz] at h2
      | some v =>
        simp only [Option.bind_some, hz, Option.map_some, Option.some.injEq] at h2
        have hv : v.cells = z.toArray := by rw [← h2]
        cases d <;> simp only [Option.bind_some] at h1 <;> first | cases h1 | skip
        have h3' : Instr.fill (fun x => places[x]?) z.toArray parts = some cells.toArray := by simpa using h3
        simp [Program.built, hu, hq, hz, h1, hv, h3']
theorem placesMx : ((Tryz.prog.underlying 53).bind fun d => match d with | .struct fs => fs.toList.mapM (fun f => (Tryz.prog.info? f.type).map fun i => (f.offset, i.size)) | _ => none) = some [(0, 1), (1, 17408), (17409, 1)] := by kernel_rfl
theorem zeroM2 : ((Tryz.prog.info? 53).bind (·.zero)).map (fun v => v.cells.toList) = some (mxL 0 F0 (.map none)) := by
  unfold mxL
  rw [oneL_zero, zS_is]
  exact zeroM
theorem buildM0 (u : World) : BuildRun Tryz.prog 53 #[] u (.agg (mxL 0 F0 (.map none)).toArray) := ⟨build_of placesMx zeroM2 [] _ rfl u⟩
theorem buildMx (n : Int) (b : Nat) (u : World) : BuildRun Tryz.prog 53 #[(0, .int .i64 n), (2, .map (some b))] u (.agg (mxL n F0 (.map (some b))).toArray) := ⟨by
  refine build_of placesMx zeroM2 [(0, .int .i64 n), (2, .map (some b))] _ ?_ u
  have hl := mxL_len 0 F0 (.map none)
  rw [← mxL_setV n F0 (.map none) (.map (some b)), ← mxL_setN 0 n F0 (.map none)]
  obtain ⟨zz, hzz⟩ : ∃ zz, zz = mxL 0 F0 (.map none) := ⟨_, rfl⟩
  rw [← hzz] at hl ⊢
  simp [Instr.fill, Value.cells, hl]⟩
theorem known_y {n0 : Nat} {w : World} {p mb : Nat} {st : MS} {A : Int → Nat} (h : Mx n0 w p mb st A) : Calls Tryz.prog 33 #[.pointer (some ⟨p, 0, none⟩)] w fun e w' => e = .returned (.bool true) ∧ w = w' := by
  have c0 := h.n_cell
  have hn := h.inv.n
  obtain ⟨n, hn1⟩ : ∃ n, n = st.n := ⟨_, rfl⟩
  rw [← hn1] at c0 hn
  have t1 : decide ((0 : Int) < (n : Int)) = true := by simp; omega
  have t2 : (0 : Int) < (n : Int) := by omega
  have t3 : decide (0 < n) = true := by simp; omega
  clear h hn1
  go_enter Tryz.func33, Tryz.ntmps33
  go_wp2_with fail
  go_ret
  exact ⟨rfl, rfl⟩
theorem known_nil (w : World) : Calls Tryz.prog 33 #[.pointer none] w fun e w' => e = .returned (.bool false) ∧ w = w' := by
  go_enter Tryz.func33, Tryz.ntmps33
  go_wp2_with fail
  go_ret
  exact ⟨rfl, rfl⟩
/-- Maps that nobody made: no units, no map of snapshots. -/
theorem known_zero {w : World} {p : Nat} (c0 : w.cell? ⟨p, 0, none⟩ = some (.int .i64 0)) : Calls Tryz.prog 33 #[.pointer (some ⟨p, 0, none⟩)] w fun e w' => e = .returned (.bool false) ∧ w = w' := by
  go_enter Tryz.func33, Tryz.ntmps33
  go_wp2_with fail
  go_ret
  exact ⟨rfl, rfl⟩
/-- Where the map of a number lies. -/
def ofP (p : Nat) (st : MS) (A : Int → Nat) (id : Int) : Value := if id = 0 then .pointer (some ⟨p, 1, none⟩) else (snapL A st.snaps id).getD (.pointer none)
set_option maxRecDepth 100000 in
theorem of_p {n0 : Nat} {w : World} {p mb : Nat} {st : MS} {A : Int → Nat} (h : Mx n0 w p mb st A) (id : Int) (hid : (Lit.int .i64 id).wf = true) : Calls Tryz.prog 34 #[.pointer (some ⟨p, 0, none⟩), .int .i64 id] w fun e w' => e = .returned (ofP p st A id) ∧ w = w' := by
  have H := Lib.hid h
  have HW := Lib.hid hid
  by_cases h0 : id = 0
  · subst h0
    clear h hid
    go_enter Tryz.func34, Tryz.ntmps34
    go_wp2_with fail
    go_ret
    exact ⟨rfl, rfl⟩
  · have t1 : (id == 0) = false := by simp [h0]
    have cm := h.map_cell
    have HV : Hid ((if false then .tuple #[(snapL A st.snaps id).getD (.pointer none), .bool (snapL A st.snaps id).isSome] else (snapL A st.snaps id).getD (.pointer none)) = ofP p st A id) := Lib.hid (by unfold ofP; rw [if_neg h0]; rfl)
    clear h hid h0
    go_enter Tryz.func34, Tryz.ntmps34
    go_wp2_with (refine wpList_gm_look (T := TI) rfl _ _ 49 70 false rfl H.out.map Tryz.underlying49 (z := .pointer none) rfl rfl id rfl HW.out (ofP p st A id) HV.out ?_)
    go_ret
    exact ⟨rfl, rfl⟩
/-- What of tells: nothing, or where a map's units lie. -/
theorem ofP_none {p : Nat} {st : MS} {A : Int → Nat} {id : Int} (h : ofM st id = none) : ofP p st A id = .pointer none := by
  unfold ofM at h
  unfold ofP snapL
  split at h
  · cases h
  · rename_i h0
    rw [if_neg h0, h]; rfl
theorem ofP_some {n0 : Nat} {w : World} {p mb : Nat} {st : MS} {A : Int → Nat} (hx : Mx n0 w p mb st A) {id : Int} {F : Mp1} (h : ofM st id = some F) : ∃ b o, ofP p st A id = .pointer (some ⟨b, o, none⟩) ∧ b < w.heap.size ∧ ∀ u, u < 512 → w.rangeAt b (o + u * 34) (slcC (F u)) := by
  unfold ofM at h
  unfold ofP
  split at h
  · rename_i h0
    injection h with h
    subst h
    exact ⟨p, 1, if_pos h0, hx.lt.1, fun u hu => hx.unit_at hu⟩
  · rename_i h0
    rw [if_neg h0]
    refine ⟨A id, 0, ?_, heap_lt (hx.snap id F h).1, fun u hu => ?_⟩
    · unfold snapL
      rw [h]; rfl
    · rw [Nat.zero_add]
      exact hx.snap_unit h hu
theorem Ms.base {n0 n1 : Nat} {w : World} {p mb : Nat} {st : MS} (h : Ms n0 w p mb st) (hn : n1 ≤ n0) : Ms n1 w p mb st := by
  obtain ⟨A, h⟩ := h
  exact ⟨A, h.blk, h.map, fun id F hf => ⟨(h.snap id F hf).1, Nat.le_trans hn (h.snap id F hf).2⟩, h.inv, Nat.le_trans hn h.lp, Nat.le_trans hn h.lm⟩
theorem new_no (n : Int) (w : World) (h : n < 1 ∨ 512 < n) : Calls Tryz.prog 5 #[.int .i64 n] w fun e w' => e = .returned (.pointer none) ∧ w = w' := by
  by_cases h1 : n < 1
  · have d1 : decide (n < 1) = true := by simpa using h1
    go_enter Tryz.func5, Tryz.ntmps5
    go_wp2_with fail
    go_ret
    exact ⟨rfl, rfl⟩
  · have h2 : 512 < n := by omega
    have d1 : decide (n < 1) = false := by simpa using h1
    have d2 : decide (512 < n) = true := by simpa using h2
    clear h
    go_enter Tryz.func5, Tryz.ntmps5
    go_wp2_with fail
    go_ret
    exact ⟨rfl, rfl⟩
set_option maxRecDepth 100000 in
theorem new_yes (n : Nat) (w : World) (h : 1 ≤ n ∧ n ≤ 512) : Calls Tryz.prog 5 #[.int .i64 n] w fun e w' => ∃ p mb, e = .returned (.pointer (some ⟨p, 0, none⟩)) ∧ Ms w.heap.size w' p mb (st0 n) ∧ Below w.heap.size w w' := by
  have HMM := @run_makeMap Tryz.prog
  have H := Lib.hid h
  have d1 : decide ((n : Int) < 1) = false := by simp; omega
  have d2 : decide ((512 : Int) < n) = false := by simp; omega
  have e1 : ¬ ((n : Int) < 1) := by omega
  have e2 : ¬ ((512 : Int) < n) := by omega
  clear h
  go_enter Tryz.func5, Tryz.ntmps5
  go_upto_region 3 with fail
  go_step
  repeat ((fail_if_success (refine wpList_buildG rfl 53 [(0, .tmp 9), (2, .tmp 10)] rfl [(0, .int .i64 n), (2, .map (some w.heap.size))] rfl _ (buildMx n w.heap.size _) ?_)); go_step)
  refine wpList_buildG rfl 53 [(0, .tmp 9), (2, .tmp 10)] rfl [(0, .int .i64 n), (2, .map (some w.heap.size))] rfl _ (buildMx n w.heap.size _) ?_
  try simp only [Act.put, List.setIfInBounds_toArray, List.set_cons_zero, List.set_cons_succ]
  refine Go.Great.wpList_boxTo rfl 53 (.tmp 11) rfl (some 12) rfl _ rfl (mxL n F0 (.map (some w.heap.size))).toArray rfl ?_
  try simp only [Act.put, List.setIfInBounds_toArray, List.set_cons_zero, List.set_cons_succ]
  clear HMM d1 d2 e1 e2
  go_wp2_with fail
  go_ret
  have hB := gm_made w TI okP
  refine ⟨w.heap.size + 1, w.heap.size, by simp, ⟨fun _ => 0, heap_new_at _ (by simp), (hB.keeps (Below.heap_alloc _ _ _ (by simp))).congr fun k _ => rfl, fun id F hf => (by cases hf), inv_st0 H.out, by omega, Nat.le_refl _⟩, ((Below.refl _ _).alloc (Nat.le_refl _) _).alloc (by simp) _⟩
end Go.Proofs.YtodhaaaodmcplaaGreat
