/- EntryNumbers (layer 14). Printed by genW.py. -/
import Derived.Test.YtmckngkmlhemoaaU0
namespace Go.Proofs.Ytmckngkmlhemoaa
open Go.RowKit
def exA : Itm := ⟨1, 1 :: 2 :: 3 :: List.replicate 29 0, 258, 1, 1, 1, 0, 0, List.replicate 32 0, 0, 0⟩
def exC : Itm := ⟨3, List.replicate 32 0, 0, 0, 0, 0, 1073741824, 0, List.replicate 32 0, 0, 0⟩
theorem exA_key : Bytes 32 (1 :: 2 :: 3 :: List.replicate 29 0) := ⟨rfl, fun x hx => by
  simp only [List.mem_cons, List.mem_replicate] at hx
  omega⟩
theorem exA_ok : exA.Ok := ⟨by simp [exA], exA_key, okI_of (by kernel_rfl), okI_of (by kernel_rfl), okI_of (by kernel_rfl), okI_of (by kernel_rfl), okI_zero, okI_zero, bytes_zero 32, okI_zero, okI_zero⟩
theorem exC_ok : exC.Ok := ⟨by simp [exC], bytes_zero 32, okI_zero, okI_zero, okI_zero, okI_zero, okI_of (by kernel_rfl), okI_zero, bytes_zero 32, okI_zero, okI_zero⟩
theorem exA_right : exA.right = true := by kernel_rfl
theorem exC_right : exC.right = true := by kernel_rfl
def its : Nat → Itm
  | 0 => exA
  | 1 => exI
  | _ => exC
theorem its_ok : ∀ a, (its a).Ok
  | 0 => exA_ok
  | 1 => exI_ok
  | _ + 2 => exC_ok
theorem its_right : ∀ a, (its a).right = true
  | 0 => exA_right
  | 1 => exI_right
  | _ + 2 => exC_right
def itsC : List Value := exA.cells ++ (exI.cells ++ exC.cells)
def numC : List Value := [.int .i64 (-9223372036854775808), .int .i64 (-1), .int .i64 0, .int .i64 1, .int .i64 2, .int .i64 3, .int .i64 4, .int .i64 15, .int .i64 16, .int .i64 17, .int .i64 255, .int .i64 256, .int .i64 511, .int .i64 512, .int .i64 1024, .int .i64 1025, .int .i64 262144, .int .i64 262145, .int .i64 1073741824, .int .i64 1073741825, .int .i64 2147483647, .int .i64 2147483648, .int .i64 4294967297, .int .i64 9223372036854775807]
theorem its_sub (a : Nat) (h : a < 3) : (itsC.drop (a * 73)).take (its a).cells.length = (its a).cells := by
  have l1 := Itm.len exA_ok
  have l2 := Itm.len exI_ok
  obtain rfl | rfl | rfl : a = 0 ∨ a = 1 ∨ a = 2 := by omega
  · exact List.take_left
  · rw [itsC, show 1 * 73 = 73 from rfl, List.drop_left' l1]
    exact List.take_left
  · rw [itsC, ← List.append_assoc, show 2 * 73 = 146 from rfl, List.drop_left' (by rw [List.length_append, l1, l2])]
    exact List.take_length
theorem num_at (k : Nat) (h : k < 24) : ∃ v : Int, okI v ∧ numC[k]? = some (.int .i64 v) := by
  have hall : ∀ k, k < 24 → (match (numC[k]? : Option Value) with | some (Value.int IntKind.i64 v) => (Lit.int .i64 v).wf | _ => false) = true := by
    decide
  have := hall k h
  split at this
  · rename_i v hv
    exact ⟨v, this, hv⟩
  · cases this
theorem Mem.left {W w : World} {L X : List (Nat × List Value × TypeId)} (h : Mem W w (L ++ X)) : Mem W w L :=
  ⟨h.below, fun x hx => h.fresh x (List.mem_append_left _ hx), by
    have := h.dist
    rw [List.map_append] at this
    exact (List.nodup_append.1 this).1, fun x hx => h.has x (List.mem_append_left _ hx)⟩
theorem ent_set {e : Ent} (ok : e.Ok) (m : Nat) (hm : m < 80) (z : Int) (hz : 0 ≤ z ∧ z < 256) : ∃ d : Ent, d.Ok ∧ splice e.cells m [.int .u8 z] = d.cells := by
  have hl := Ent.len ok
  rw [splice_one _ _ _ (by omega), Ent.cells_kv, u8l_set]
  have hb := bytes_set (Ent.kv_bytes ok) m z hz
  obtain ⟨d, hd, he⟩ := ent_of_fits (show Fits (u8l (e.kv.set m z)) entryK from fits_u8l hb)
  exact ⟨d, hd, he⟩
theorem bits_u8_bd (a b : Int) : 0 ≤ bits .xor .u8 a b ∧ bits .xor .u8 a b < 256 := by
  show 0 ≤ IntKind.u8.wrap _ ∧ IntKind.u8.wrap _ < 256
  rw [IntKind.wrap_u8]
  omega
theorem build24a (u : World) : BuildRun Try.prog 24 #[(0, .int .u8 1), (1, .int .u8 2), (2, .int .u8 3)] u (.agg (u8l exA.key).toArray) := ⟨by kernel_rfl⟩
theorem build30a (u : World) : BuildRun Try.prog 30 #[(0, .int .u8 1), (1, .agg (u8l exA.key).toArray), (2, .agg #[.int .i64 258, .int .i64 1, .int .i64 1, .int .i64 1])] u (.agg exA.cells.toArray) := ⟨by kernel_rfl⟩
theorem build30c (u : World) : BuildRun Try.prog 30 #[(0, .int .u8 3), (3, .int .i64 1073741824)] u (.agg exC.cells.toArray) := ⟨by kernel_rfl⟩
/-- What a built slice is (a name, so that nothing unfolds it). -/
structure SliceRun (P : Program) (t : TypeId) (len : Nat) (ps : Array (Nat × Value)) (w : World) (r : Value) (w' : World) : Prop where
  run : (Instr.buildSlice t len ps).run P w = .ok r w'
theorem wpList_sliceG {P : Program} {ops : Array Oper} {rest : List Oper} {op : Oper} {a : Act} {w : World} {Q : Exit → Act → World → Prop} (hg : Region.wanted op (yielded ops a.tmps) = true) (t : TypeId) (len : Nat) (parts : List (Nat × Operand)) (ho : op.op = .buildSlice t len parts.toArray)
    (ps : List (Nat × Value)) (hps : (parts.map fun x => (x.1, a.eval x.2)) = ps) (r : Value) (w' : World) (hr : SliceRun P t len ps.toArray w r w') (h : wpList P ops Q rest (a.put op.dst r) w') : wpList P ops Q (op :: rest) a w :=
  BigFrame.wpList_want hg fun K hK => by
    have hr := hr.run
    rw [← hps] at hr
    unfold Oper.wp execOp
    simp only [ho, List.map_toArray, Sem.run_bind, hr, Result.andThen_ok, Sem.run_pure]
    exact hK _ _ h
theorem slice47 (u : World) : SliceRun Try.prog 47 3 #[(0, .agg exA.cells.toArray), (1, .agg exI.cells.toArray), (2, .agg exC.cells.toArray)] u (.slice (some ⟨u.heap.size, 0, none⟩) 3 3) (u.alloc (.cells itsC.toArray 30)) := ⟨by kernel_rfl⟩
theorem slice48 (u : World) : SliceRun Try.prog 48 24 #[(0, .int .i64 (-9223372036854775808)), (1, .int .i64 (-1)), (2, .int .i64 0), (3, .int .i64 1), (4, .int .i64 2), (5, .int .i64 3), (6, .int .i64 4), (7, .int .i64 15), (8, .int .i64 16), (9, .int .i64 17), (10, .int .i64 255), (11, .int .i64 256), (12, .int .i64 511), (13, .int .i64 512), (14, .int .i64 1024), (15, .int .i64 1025), (16, .int .i64 262144), (17, .int .i64 262145), (18, .int .i64 1073741824), (19, .int .i64 1073741825), (20, .int .i64 2147483647), (21, .int .i64 2147483648), (22, .int .i64 4294967297), (23, .int .i64 9223372036854775807)] u (.slice (some ⟨u.heap.size, 0, none⟩) 24 24) (u.alloc (.cells numC.toArray 3)) := ⟨by kernel_rfl⟩
set_option maxRecDepth 100000 in
set_option maxHeartbeats 8000000 in
theorem law6 (w : World) : Calls Try.prog 6 #[] w fun r w' => r = .returned (.bool true) ∧ Below w.heap.size w w' := by
  have z35 := zero35
  go_enter Try.func6, Try.ntmps6
  go_wp2_with first
    | (refine wpList_buildG rfl 24 [(0, .const (.int .u8 1)), (1, .const (.int .u8 2)), (2, .const (.int .u8 3))] rfl [(0, .int .u8 1), (1, .int .u8 2), (2, .int .u8 3)] rfl _ (build24a _) ?_)
    | (refine wpList_buildG rfl 26 [(0, .const (.int .i64 258)), (1, .const (.int .i64 1)), (2, .const (.int .i64 1)), (3, .const (.int .i64 1))] rfl [(0, .int .i64 258), (1, .int .i64 1), (2, .int .i64 1), (3, .int .i64 1)] rfl _ (build26 _ _ _ _ _) ?_)
    | (refine wpList_buildG rfl 30 [(0, .const (.int .u8 1)), (1, .tmp 12), (2, .tmp 13)] rfl [(0, .int .u8 1), (1, .agg (u8l exA.key).toArray), (2, .agg #[.int .i64 258, .int .i64 1, .int .i64 1, .int .i64 1])] rfl _ (build30a _) ?_)
  refine (slice16 _).mono ?_
  rintro r w1 ⟨rfl, hb⟩
  have M1 := Lib.hid ((Mem.nil w).go hb)
  clear hb
  go_upto_region 3 with first
    | (refine wpList_buildG rfl 30 [(0, .const (.int .u8 3)), (3, .const (.int .i64 1073741824))] rfl [(0, .int .u8 3), (3, .int .i64 1073741824)] rfl _ (build30c _) ?_)
    | (refine wpList_sliceG rfl 47 3 [(0, .tmp 14), (1, .tmp 15), (2, .tmp 16)] rfl [(0, .agg exA.cells.toArray), (1, .agg exI.cells.toArray), (2, .agg exC.cells.toArray)] rfl _ _ (slice47 _) ?_)
    | (refine wpList_sliceG rfl 48 24 [(0, .const (.int .i64 (-9223372036854775808))), (1, .const (.int .i64 (-1))), (2, .const (.int .i64 0)), (3, .const (.int .i64 1)), (4, .const (.int .i64 2)), (5, .const (.int .i64 3)), (6, .const (.int .i64 4)), (7, .const (.int .i64 15)), (8, .const (.int .i64 16)), (9, .const (.int .i64 17)), (10, .const (.int .i64 255)), (11, .const (.int .i64 256)), (12, .const (.int .i64 511)), (13, .const (.int .i64 512)), (14, .const (.int .i64 1024)), (15, .const (.int .i64 1025)), (16, .const (.int .i64 262144)), (17, .const (.int .i64 262145)), (18, .const (.int .i64 1073741824)), (19, .const (.int .i64 1073741825)), (20, .const (.int .i64 2147483647)), (21, .const (.int .i64 2147483648)), (22, .const (.int .i64 4294967297)), (23, .const (.int .i64 9223372036854775807))] rfl [(0, .int .i64 (-9223372036854775808)), (1, .int .i64 (-1)), (2, .int .i64 0), (3, .int .i64 1), (4, .int .i64 2), (5, .int .i64 3), (6, .int .i64 4), (7, .int .i64 15), (8, .int .i64 16), (9, .int .i64 17), (10, .int .i64 255), (11, .int .i64 256), (12, .int .i64 511), (13, .int .i64 512), (14, .int .i64 1024), (15, .int .i64 1025), (16, .int .i64 262144), (17, .int .i64 262145), (18, .int .i64 1073741824), (19, .int .i64 1073741825), (20, .int .i64 2147483647), (21, .int .i64 2147483648), (22, .int .i64 4294967297), (23, .int .i64 9223372036854775807)] rfl _ _ (slice48 _) ?_)
  obtain ⟨bl, hbl⟩ : ∃ b, b = w1.heap.size := ⟨_, rfl⟩
  obtain ⟨bn, hbn⟩ : ∃ b, b = (w1.alloc (.cells itsC.toArray 30)).heap.size := ⟨_, rfl⟩
  have hbn' : bn = w1.heap.size + 1 := by rw [hbn]; simp
  obtain ⟨w2, hw2⟩ : ∃ w2, w2 = (w1.alloc (.cells itsC.toArray 30)).alloc (.cells numC.toArray 3) := ⟨_, rfl⟩
  have M2 : Hid (Mem w w2 [(bl, itsC, 30), (bn, numC, 3)]) := Lib.hid (by rw [hw2, hbl, hbn]; exact (M1.out.push itsC 30).push numC 3)
  rw [← hw2]
  try rw [← hbn']
  try rw [← hbn]
  rw [← hbl]
  clear hbl hbn hbn' hw2 M1
  go_wp2_with fail
  go_loopw [3] (fun i_ wr => ∃ a : Nat, a ≤ 3 ∧ i_ = .int .i64 a ∧ Mem w wr [(bl, itsC, 30), (bn, numC, 3)]) (fun i_ _ => 3 - (intOf i_).toNat)
  case atStart => exact ⟨0, Nat.zero_le _, rfl, M2.out⟩
  case round =>
    clear M2
    obtain ⟨a, ha, rfl, hm⟩ := hrel
    have HM := Lib.hid hm
    clear hm
    by_cases hlt : a < 3
    · have hic : Hid ((its a).cells.length = 73) := Lib.hid (Itm.len (its_ok a))
      have hit : Hid ((Try.prog.info? 30).map (·.size) = some (its a).cells.length) := Lib.hid (by rw [hic.out]; exact info30)
      have hsub := Lib.hid (its_sub a hlt)
      have ja1 : (0 : Int) ≤ a := by omega
      have ja2 : (a : Int) < 3 := by omega
      have hlt3 := Lib.hid hlt
      clear hlt
      go_wp2_with fail
      go_loopw [4] (fun i_ wr => ∃ n : Nat, n ≤ 11 ∧ i_ = .int .i64 n ∧ Mem w wr [(bl, itsC, 30), (bn, numC, 3)]) (fun i_ _ => 11 - (intOf i_).toNat)
      case atStart => exact ⟨0, Nat.zero_le _, rfl, HM.out⟩
      case round =>
        clear HM
        obtain ⟨n, hn, rfl, hm⟩ := hrel
        have HM := Lib.hid hm
        clear hm
        by_cases hlt : n < 11
        · have jn : (n : Int) < 11 := by omega
          go_wp2_with fail
          go_loopw [5] (fun i_ wr => ∃ k : Nat, k ≤ 24 ∧ i_ = .int .i64 k ∧ Mem w wr [(bl, itsC, 30), (bn, numC, 3)]) (fun i_ _ => 24 - (intOf i_).toNat)
          case atStart => exact ⟨0, Nat.zero_le _, rfl, HM.out⟩
          case round =>
            clear HM
            obtain ⟨k, hk, rfl, hm⟩ := hrel
            have HM := Lib.hid hm
            clear hm
            by_cases hlk : k < 24
            · obtain ⟨v, hv, hnk⟩ := num_at k hlk
              have HV := Lib.hid hv
              have HN := Lib.hid hnk
              have jk1 : (0 : Int) ≤ k := by omega
              have jk2 : (k : Int) < 24 := by omega
              clear hv hnk
              go_upto_region 12 with fail
              have R0 := Lib.hid (HM.out.drew 1)
              have hH0 : (fun w' => w'.rangeAt bl (a * 73) (its a).cells ∧ w'.cell? ⟨bn, k, none⟩ = some (.int .i64 v)) wr.drew := ⟨R0.out.range 0 rfl (a * 73) (its a).cells hsub.out, R0.out.cell 1 rfl k HN.out⟩
              refine wp_region_held_drew (S := fun w' => w'.rangeAt bl (a * 73) (its a).cells ∧ w'.cell? ⟨bn, k, none⟩ = some (.int .i64 v)) follows hH0 (fun hHeld => ?_)
              obtain ⟨u0, hu0⟩ : ∃ w', w' = wr.drew := ⟨_, rfl⟩
              have R1 : Hid (Mem w u0 [(bl, itsC, 30), (bn, numC, 3)]) := Lib.hid (by rw [hu0]; exact R0.out)
              rw [← hu0] at hHeld ⊢
              clear hu0 hH0 R0 HM
              refine wpAnyH_take (i := 0) (v := ?_) (by simp only [List.getElem?_toArray, List.getElem?_cons_zero]; rfl) (by kernel_rfl) (by kernel_rfl) (by kernel_rfl) (by intro _ _ _ h; exact h) (Or.inl ⟨by rfl, ?_⟩) hHeld ?_
              rotate_left
              · (intro w hSw; (try dsimp only at hSw); go_simp; try with_reducible rfl)
              try simp only [Act.put, List.setIfInBounds_toArray, List.set_cons_zero, List.set_cons_succ]
              refine wpAnyH_take (i := 1) (v := ?_) (by simp only [List.getElem?_toArray, List.getElem?_cons_zero, List.getElem?_cons_succ]; rfl) (by kernel_rfl) (by kernel_rfl) (by kernel_rfl) (by intro _ _ _ h; exact h) (Or.inl ⟨by rfl, ?_⟩) hHeld ?_
              rotate_left
              · (intro w hSw; (try dsimp only at hSw); go_simp; try with_reducible rfl)
              try simp only [Act.put, List.setIfInBounds_toArray, List.set_cons_zero, List.set_cons_succ]
              refine wpAnyH_take (i := 2) (v := ?_) (by simp only [List.getElem?_toArray, List.getElem?_cons_zero, List.getElem?_cons_succ]; rfl) (by kernel_rfl) (by kernel_rfl) (by kernel_rfl) (by intro _ _ _ h; exact h) (Or.inl ⟨by rfl, ?_⟩) hHeld ?_
              rotate_left
              · (intro w hSw; (try dsimp only at hSw); go_simp; try with_reducible rfl)
              try simp only [Act.put, List.setIfInBounds_toArray, List.set_cons_zero, List.set_cons_succ]
              refine wpAnyH_take (i := 3) (v := _) (by simp only [List.getElem?_toArray, List.getElem?_cons_zero, List.getElem?_cons_succ]; rfl) (by kernel_rfl) (by kernel_rfl) (by kernel_rfl) (by intro _ _ _ h; exact h) (yieldsIf_load_mid (by rfl) 30 (.tmp 37) rfl bl (a * 73) rfl (its a).cells _ (fun _ h => h.1) Try.underlying30 rfl hit.out) hHeld ?_
              try simp only [Act.put, List.setIfInBounds_toArray, List.set_cons_zero, List.set_cons_succ]
              refine wpAnyH_take (i := 4) (v := ?_) (by simp only [List.getElem?_toArray, List.getElem?_cons_zero, List.getElem?_cons_succ]; rfl) (by kernel_rfl) (by kernel_rfl) (by kernel_rfl) (by intro _ _ _ h; exact h) (Or.inl ⟨by rfl, ?_⟩) hHeld ?_
              rotate_left
              · (intro w hSw; (try dsimp only at hSw); go_simp; try with_reducible rfl)
              try simp only [Act.put, List.setIfInBounds_toArray, List.set_cons_zero, List.set_cons_succ]
              refine wpAnyH_take (i := 5) (v := ?_) (by simp only [List.getElem?_toArray, List.getElem?_cons_zero, List.getElem?_cons_succ]; rfl) (by kernel_rfl) (by kernel_rfl) (by kernel_rfl) (by intro _ _ _ h; exact h) (Or.inl ⟨by rfl, ?_⟩) hHeld ?_
              rotate_left
              · (intro w hSw; (try dsimp only at hSw); go_simp; try with_reducible rfl)
              try simp only [Act.put, List.setIfInBounds_toArray, List.set_cons_zero, List.set_cons_succ]
              refine wpAnyH_take (i := 6) (v := ?_) (by simp only [List.getElem?_toArray, List.getElem?_cons_zero, List.getElem?_cons_succ]; rfl) (by kernel_rfl) (by kernel_rfl) (by kernel_rfl) (by intro _ _ _ h; exact h) (Or.inl ⟨by rfl, ?_⟩) hHeld ?_
              rotate_left
              · (intro w hSw; (try dsimp only at hSw); go_simp; try with_reducible rfl)
              try simp only [Act.put, List.setIfInBounds_toArray, List.set_cons_zero, List.set_cons_succ]
              refine wpAnyH_take (i := 7) (v := ?_) (by simp only [List.getElem?_toArray, List.getElem?_cons_zero, List.getElem?_cons_succ]; rfl) (by kernel_rfl) (by kernel_rfl) (by kernel_rfl) (by intro _ _ _ h; exact h) (Or.inl ⟨by rfl, ?_⟩) hHeld ?_
              rotate_left
              · (intro w hSw; (try dsimp only at hSw); go_simp; try with_reducible rfl)
              try simp only [Act.put, List.setIfInBounds_toArray, List.set_cons_zero, List.set_cons_succ]
              refine wpAnyH_take (i := 8) (v := ?_) (by simp only [List.getElem?_toArray, List.getElem?_cons_zero, List.getElem?_cons_succ]; rfl) (by kernel_rfl) (by kernel_rfl) (by kernel_rfl) (by intro _ _ _ h; exact h) (Or.inl ⟨by rfl, ?_⟩) hHeld ?_
              rotate_left
              · (intro w hSw; (try dsimp only at hSw); go_simp; try with_reducible rfl)
              try simp only [Act.put, List.setIfInBounds_toArray, List.set_cons_zero, List.set_cons_succ]
              refine wpAnyH_ready (rs := [9]) (by kernel_rfl) (by simp) ?_
              refine AllReadyH.cons (by simp only [List.getElem?_toArray, List.getElem?_cons_zero, List.getElem?_cons_succ]; rfl) (fun K hK => ?_) AllReadyH.nil
              go_simp
              refine (bent17 (its a) (its_ok a) n v HV.out _).mono ?_
              rintro r u1 ⟨⟨j, oj, rfl⟩, hb⟩
              have R2 := Lib.hid (R1.out.go hb)
              refine hK.out _ _ ⟨R2.out.range 0 rfl (a * 73) (its a).cells hsub.out, R2.out.cell 1 rfl k HN.out⟩ (fun hHeld => ?_)
              clear hK K hb R1
              try simp only [Act.put, List.setIfInBounds_toArray, List.set_cons_zero, List.set_cons_succ]
              refine wpAnyH_ready (rs := [10]) (by kernel_rfl) (by simp) ?_
              refine AllReadyH.cons (by simp only [List.getElem?_toArray, List.getElem?_cons_zero, List.getElem?_cons_succ]; rfl) (fun K hK => ?_) AllReadyH.nil
              go_simp
              refine (law3 j oj _).mono ?_
              rintro r u2 ⟨rfl, hb⟩
              have R3 := Lib.hid (R2.out.go hb)
              refine hK.out _ _ ⟨R3.out.range 0 rfl (a * 73) (its a).cells hsub.out, R3.out.cell 1 rfl k HN.out⟩ (fun hHeld => ?_)
              clear hK K hb R2
              try simp only [Act.put, List.setIfInBounds_toArray, List.set_cons_zero, List.set_cons_succ]
              refine wpAnyH_take (i := 11) (v := ?_) (by simp only [List.getElem?_toArray, List.getElem?_cons_zero, List.getElem?_cons_succ]; rfl) (by kernel_rfl) (by kernel_rfl) (by kernel_rfl) (by intro _ _ _ h; exact h) (Or.inl ⟨by rfl, ?_⟩) hHeld ?_
              rotate_left
              · (intro w hSw; (try dsimp only at hSw); go_simp; try with_reducible rfl)
              try simp only [Act.put, List.setIfInBounds_toArray, List.set_cons_zero, List.set_cons_succ]
              refine wpAnyH_done (by kernel_rfl) ?_ _
              clear hHeld
              go_wp2_with fail
              refine ⟨⟨k + 1, by omega, by go_num, R3.out⟩, by simp [intOf]; omega⟩
            · obtain rfl : k = 24 := by omega
              go_wp2_with fail
              refine ⟨⟨n + 1, by omega, by go_num, HM.out⟩, by simp [intOf]; omega⟩
        · obtain rfl : n = 11 := by omega
          have g1 := HM.out.range 0 rfl (a * 73) (its a).cells hsub.out
          obtain ⟨E, hE⟩ : ∃ E, E = (its a).ent := ⟨_, rfl⟩
          have oE : Hid E.Ok := Lib.hid (by rw [hE]; exact ent_ok (its_ok a))
          have HO : Hid (ofOut (its a) = .tuple #[.agg E.cells.toArray, .int .i64 0]) := Lib.hid (by rw [hE]; exact ofOut_t (its_right a))
          have hec : Hid (E.cells.length = 80) := Lib.hid (Ent.len oE.out)
          have hel : Hid ((Try.prog.info? 35).map (·.size) = some E.cells.length) := Lib.hid (by rw [hec.out]; exact info35)
          have hkl : Hid ((Try.prog.info? 32).map (·.size) = some (u8l E.k).length) := Lib.hid (by rw [u8l_len, oE.out.k.1]; exact info32)
          clear hE
          go_wp2_with (refine wpList_load_midG rfl 30 (.tmp 50) rfl bl (a * 73) rfl (its a).cells _ g1 Try.underlying30 rfl hit.out ?_)
          refine (of9 (its a) (its_ok a) _).mono ?_
          rintro r w3 ⟨rfl, hb⟩
          rw [HO.out]
          have M3 := Lib.hid (HM.out.go hb)
          clear hb HM g1
          go_upto_region 15 with (refine wpList_store_seg rfl 35 (.tmp 6) (.tmp 53) rfl w3.heap.size 0 rfl E.cells rfl (M3.out.push zE 35) 2 _ 35 rfl hel.out (by rw [hec.out]; simp [zE, zb]) u8l_one rfl ?_; intro w4 M4 hs4)
          obtain ⟨b6, hb6⟩ : ∃ b, b = w3.heap.size := ⟨_, rfl⟩
          rw [← hb6]
          have M5 : Hid (Mem w w4 [(bl, itsC, 30), (bn, numC, 3), (b6, E.cells, 35)]) := Lib.hid (by
            have q := M4.out
            rw [splice_all _ _ (by rw [hec.out]; rfl)] at q
            rw [hb6]; exact q)
          clear M4 M3 hs4 hb6
          go_wp2_with fail
          go_loopw [8] (fun i_ wr => ∃ m : Nat, m ≤ 40 ∧ i_ = .int .i64 m ∧ Mem w wr [(bl, itsC, 30), (bn, numC, 3), (b6, E.cells, 35)]) (fun i_ _ => 40 - (intOf i_).toNat)
          case atStart => exact ⟨0, Nat.zero_le _, rfl, M5.out⟩
          case round =>
            clear M5
            obtain ⟨m, hm40, rfl, hm⟩ := hrel
            have HM := Lib.hid hm
            clear hm
            by_cases hlm : m < 40
            · have jm1 : (0 : Int) ≤ m := by omega
              have jm2 : (m : Int) < 40 := by omega
              go_wp2_with fail
              go_loopw [9] (fun i_ wr => ∃ q : Nat, q ≤ 8 ∧ i_ = .int .i64 q ∧ Mem w wr [(bl, itsC, 30), (bn, numC, 3), (b6, E.cells, 35)]) (fun i_ _ => 8 - (intOf i_).toNat)
              case atStart => exact ⟨0, Nat.zero_le _, rfl, HM.out⟩
              case round =>
                clear HM
                obtain ⟨q, hq8, rfl, hm⟩ := hrel
                have HM := Lib.hid hm
                clear hm
                by_cases hlq : q < 8
                · have jq1 : (0 : Int) ≤ q := by omega
                  have jq2 : (q : Int) < 8 := by omega
                  go_upto_region 23 with fail
                  go_cut [10, 11] from 65 to 66 (fun s10 s11 w' => ∃ ba bb, s10 = .pointer (some ⟨ba, 0, none⟩) ∧ s11 = .pointer (some ⟨bb, 0, none⟩) ∧ Mem w w' [(bl, itsC, 30), (bn, numC, 3), (b6, E.cells, 35), (ba, E.cells, 35), (bb, E.cells, 35)])
                  case first =>
                    have R0 := Lib.hid (HM.out.drew 1)
                    have hH0 : (fun w' => w'.rangeAt b6 0 E.cells) wr.drew := (R0.out.all 2 rfl)
                    refine wp_region_held_drew (S := fun w' => w'.rangeAt b6 0 E.cells) follows hH0 (fun hHeld => ?_)
                    obtain ⟨u0, hu0⟩ : ∃ w', w' = wr.drew := ⟨_, rfl⟩
                    have R1 : Hid (Mem w u0 [(bl, itsC, 30), (bn, numC, 3), (b6, E.cells, 35)]) := Lib.hid (by rw [hu0]; exact R0.out)
                    rw [← hu0] at hHeld ⊢
                    clear hu0 hH0 R0
                    refine wpAnyH_take (i := 0) (v := _) (by simp only [List.getElem?_toArray, List.getElem?_cons_zero]; rfl) (by kernel_rfl) (by kernel_rfl) (by kernel_rfl) (by intro _ _ _ h; exact h) (yieldsIf_load_mid (by rfl) 35 (.tmp 6) rfl b6 0 rfl E.cells _ (fun _ h => h) Try.underlying35 rfl hel.out) hHeld ?_
                    try simp only [Act.put, List.setIfInBounds_toArray, List.set_cons_zero, List.set_cons_succ]
                    refine wpAnyH_take (i := 1) (v := _) (by simp only [List.getElem?_toArray, List.getElem?_cons_zero, List.getElem?_cons_succ]; rfl) (by kernel_rfl) (by kernel_rfl) (by kernel_rfl) (by intro _ _ _ h; exact h) (yieldsIf_load_mid (by rfl) 35 (.tmp 6) rfl b6 0 rfl E.cells _ (fun _ h => h) Try.underlying35 rfl hel.out) hHeld ?_
                    try simp only [Act.put, List.setIfInBounds_toArray, List.set_cons_zero, List.set_cons_succ]
                    refine wpAnyH_ready (rs := [2, 3]) (by kernel_rfl) (by simp) ?_
                    refine AllReadyH.cons (by simp only [List.getElem?_toArray, List.getElem?_cons_zero, List.getElem?_cons_succ]; rfl) (fun K hK => ?_) (AllReadyH.cons (by simp only [List.getElem?_toArray, List.getElem?_cons_zero, List.getElem?_cons_succ]; rfl) (fun K hK => ?_) AllReadyH.nil)
                    · go_simp
                      obtain ⟨x1, hx1⟩ : ∃ b, b = u0.heap.size := ⟨_, rfl⟩
                      have N1 : Hid (Mem w (u0.alloc (.cells zE.toArray 35)) [(bl, itsC, 30), (bn, numC, 3), (b6, E.cells, 35), (x1, zE, 35)]) := Lib.hid (by rw [hx1]; exact R1.out.push zE 35)
                      rw [← hx1]
                      refine hK.out _ _ (N1.out.all 2 rfl) (fun hHeld => ?_)
                      clear hK K hx1
                      try simp only [Act.put, List.setIfInBounds_toArray, List.set_cons_zero, List.set_cons_succ]
                      refine wpAnyH_ready (rs := [3]) (by kernel_rfl) (by simp) ?_
                      refine AllReadyH.cons (by simp only [List.getElem?_toArray, List.getElem?_cons_zero, List.getElem?_cons_succ]; rfl) (fun K hK => ?_) AllReadyH.nil
                      go_simp
                      obtain ⟨y1, hy1⟩ : ∃ w', w' = u0.alloc (.cells zE.toArray 35) := ⟨_, rfl⟩
                      have hs2 : y1.heap.size = u0.heap.size + 1 := by rw [hy1]; simp
                      rw [← hy1] at N1
                      obtain ⟨x2, hx2⟩ : ∃ b, b = y1.heap.size := ⟨_, rfl⟩
                      have N2 : Hid (Mem w (y1.alloc (.cells zE.toArray 35)) [(bl, itsC, 30), (bn, numC, 3), (b6, E.cells, 35), (x1, zE, 35), (x2, zE, 35)]) := Lib.hid (by rw [hx2]; exact N1.out.push zE 35)
                      try rw [← hy1]
                      try rw [← hs2]
                      try rw [← hx2]
                      refine hK.out _ _ (N2.out.all 2 rfl) (fun hHeld => ?_)
                      clear hK K hy1 hx2 hs2
                      try simp only [Act.put, List.setIfInBounds_toArray, List.set_cons_zero, List.set_cons_succ]
                      refine wpAnyH_ready (rs := [4]) (by kernel_rfl) (by simp) ?_
                      refine AllReadyH.cons (by simp only [List.getElem?_toArray, List.getElem?_cons_zero, List.getElem?_cons_succ]; rfl) (fun K hK => ?_) AllReadyH.nil
                      rw [if_pos (by rfl)]
                      refine wp_store_seg 35 (.tmp 10) (.tmp 65) rfl x1 0 rfl E.cells rfl N2.out 3 _ 35 rfl hel.out (by rw [hec.out]; simp [zE, zb]) u8l_one ?_
                      intro y3 N3 hs_
                      refine hK.out _ _ (N3.out.all 2 rfl) (fun hHeld => ?_)
                      clear hK K hs_
                      refine wpAnyH_ready (rs := [5]) (by kernel_rfl) (by simp) ?_
                      refine AllReadyH.cons (by simp only [List.getElem?_toArray, List.getElem?_cons_zero, List.getElem?_cons_succ]; rfl) (fun K hK => ?_) AllReadyH.nil
                      rw [if_pos (by rfl)]
                      refine wp_store_seg 35 (.tmp 11) (.tmp 66) rfl x2 0 rfl E.cells rfl N3.out 4 _ 35 rfl hel.out (by rw [hec.out]; simp [zE, zb]) u8l_one ?_
                      intro y4 N4 hs_
                      refine hK.out _ _ (N4.out.all 2 rfl) (fun hHeld => ?_)
                      clear hK K hs_
                      refine wpAnyH_done (by kernel_rfl) ?_ _
                      have N5 : Mem w y4 [(bl, itsC, 30), (bn, numC, 3), (b6, E.cells, 35), (x1, E.cells, 35), (x2, E.cells, 35)] := by
                        have p := N4.out
                        rw [splice_all _ _ (by rw [hec.out]; rfl)] at p
                        exact p
                      go_wp2_with fail
                      go_meet
                      case rel => exact ⟨_, _, rfl, rfl, N5⟩
                    · go_simp
                      obtain ⟨x1, hx1⟩ : ∃ b, b = u0.heap.size := ⟨_, rfl⟩
                      have N1 : Hid (Mem w (u0.alloc (.cells zE.toArray 35)) [(bl, itsC, 30), (bn, numC, 3), (b6, E.cells, 35), (x1, zE, 35)]) := Lib.hid (by rw [hx1]; exact R1.out.push zE 35)
                      rw [← hx1]
                      refine hK.out _ _ (N1.out.all 2 rfl) (fun hHeld => ?_)
                      clear hK K hx1
                      try simp only [Act.put, List.setIfInBounds_toArray, List.set_cons_zero, List.set_cons_succ]
                      refine wpAnyH_ready (rs := [2]) (by kernel_rfl) (by simp) ?_
                      refine AllReadyH.cons (by simp only [List.getElem?_toArray, List.getElem?_cons_zero, List.getElem?_cons_succ]; rfl) (fun K hK => ?_) AllReadyH.nil
                      go_simp
                      obtain ⟨y1, hy1⟩ : ∃ w', w' = u0.alloc (.cells zE.toArray 35) := ⟨_, rfl⟩
                      have hs2 : y1.heap.size = u0.heap.size + 1 := by rw [hy1]; simp
                      rw [← hy1] at N1
                      obtain ⟨x2, hx2⟩ : ∃ b, b = y1.heap.size := ⟨_, rfl⟩
                      have N2 : Hid (Mem w (y1.alloc (.cells zE.toArray 35)) [(bl, itsC, 30), (bn, numC, 3), (b6, E.cells, 35), (x1, zE, 35), (x2, zE, 35)]) := Lib.hid (by rw [hx2]; exact N1.out.push zE 35)
                      try rw [← hy1]
                      try rw [← hs2]
                      try rw [← hx2]
                      refine hK.out _ _ (N2.out.all 2 rfl) (fun hHeld => ?_)
                      clear hK K hy1 hx2 hs2
                      try simp only [Act.put, List.setIfInBounds_toArray, List.set_cons_zero, List.set_cons_succ]
                      refine wpAnyH_ready (rs := [4]) (by kernel_rfl) (by simp) ?_
                      refine AllReadyH.cons (by simp only [List.getElem?_toArray, List.getElem?_cons_zero, List.getElem?_cons_succ]; rfl) (fun K hK => ?_) AllReadyH.nil
                      rw [if_pos (by rfl)]
                      refine wp_store_seg 35 (.tmp 10) (.tmp 65) rfl x2 0 rfl E.cells rfl N2.out 4 _ 35 rfl hel.out (by rw [hec.out]; simp [zE, zb]) u8l_one ?_
                      intro y3 N3 hs_
                      refine hK.out _ _ (N3.out.all 2 rfl) (fun hHeld => ?_)
                      clear hK K hs_
                      refine wpAnyH_ready (rs := [5]) (by kernel_rfl) (by simp) ?_
                      refine AllReadyH.cons (by simp only [List.getElem?_toArray, List.getElem?_cons_zero, List.getElem?_cons_succ]; rfl) (fun K hK => ?_) AllReadyH.nil
                      rw [if_pos (by rfl)]
                      refine wp_store_seg 35 (.tmp 11) (.tmp 66) rfl x1 0 rfl E.cells rfl N3.out 3 _ 35 rfl hel.out (by rw [hec.out]; simp [zE, zb]) u8l_one ?_
                      intro y4 N4 hs_
                      refine hK.out _ _ (N4.out.all 2 rfl) (fun hHeld => ?_)
                      clear hK K hs_
                      refine wpAnyH_done (by kernel_rfl) ?_ _
                      have N5 : Mem w y4 [(bl, itsC, 30), (bn, numC, 3), (b6, E.cells, 35), (x1, E.cells, 35), (x2, E.cells, 35)] := by
                        have p := N4.out
                        rw [splice_all _ _ (by rw [hec.out]; rfl)] at p
                        exact p
                      go_wp2_with fail
                      go_meet
                      case rel => exact ⟨_, _, rfl, rfl, N5.perm (.cons _ (.cons _ (.cons _ (.swap _ _ _))))⟩
                  case rest =>
                    obtain ⟨ba, bb, rfl, rfl, hM⟩ := hcut
                    have M6 := Lib.hid hM
                    clear hM HM
                    have c1 : wc.cell? ⟨ba, m, none⟩ = some (.int .u8 (E.kv.getD m 0)) := M6.out.cell 3 rfl m (Ent.byte oE.out m (by omega))
                    go_upto_region 25 with (refine wpList_store_one rfl 5 (.tmp 77) (.tmp 75) rfl ba m rfl .u8 _ rfl M6.out 3 _ 35 rfl info5 (by rw [hec.out]; omega) rfl ?_; intro w7 M7 hs7)
                    obtain ⟨z, hz, hM7⟩ : ∃ z : Int, (0 ≤ z ∧ z < 256) ∧ Mem w w7 [(bl, itsC, 30), (bn, numC, 3), (b6, E.cells, 35), (ba, splice E.cells m [.int .u8 z], 35), (bb, E.cells, 35)] := by
                      refine ⟨_, ?_, M7.out⟩
                      exact bits_u8_bd _ _
                    obtain ⟨D, oD, hD⟩ := ent_set oE.out m (by omega) z hz
                    rw [hD] at hM7
                    have M8 := Lib.hid hM7
                    clear hM7 hD hz M7 M6 c1 hs7
                    have c2 : w7.cell? ⟨bb, 40 + m, none⟩ = some (.int .u8 (E.kv.getD (40 + m) 0)) := M8.out.cell 4 rfl (40 + m) (Ent.byte oE.out (40 + m) (by omega))
                    go_upto_region 26 with (refine wpList_store_one rfl 5 (.tmp 88) (.tmp 86) rfl bb (40 + m) rfl .u8 _ rfl M8.out 4 _ 35 rfl info5 (by rw [hec.out]; omega) rfl ?_; intro w9 M9 hs9)
                    obtain ⟨z, hz, hM9⟩ : ∃ z : Int, (0 ≤ z ∧ z < 256) ∧ Mem w w9 [(bl, itsC, 30), (bn, numC, 3), (b6, E.cells, 35), (ba, D.cells, 35), (bb, splice E.cells (40 + m) [.int .u8 z], 35)] := by
                      refine ⟨_, ?_, M9.out⟩
                      exact bits_u8_bd _ _
                    obtain ⟨F, oF, hF⟩ := ent_set oE.out (40 + m) (by omega) z hz
                    rw [hF] at hM9
                    have M10 := Lib.hid hM9
                    clear hM9 hF hz M9 M8 c2 hs9
                    have hDl : Hid ((Try.prog.info? 35).map (·.size) = some D.cells.length) := Lib.hid (by rw [Ent.len oD]; exact info35)
                    have hFl : Hid ((Try.prog.info? 35).map (·.size) = some F.cells.length) := Lib.hid (by rw [Ent.len oF]; exact info35)
                    have hDk : Hid ((Try.prog.info? 32).map (·.size) = some (u8l D.k).length) := Lib.hid (by rw [u8l_len, oD.k.1]; exact info32)
                    have gD := M10.out.all 3 rfl
                    go_wp2_with (refine wpList_load_midG rfl 35 (.tmp 10) rfl ba 0 rfl D.cells _ gD Try.underlying35 rfl hDl.out ?_)
                    refine (law4 D oD _).mono ?_
                    rintro r w11 ⟨rfl, hb⟩
                    have M11 := Lib.hid (M10.out.go hb)
                    clear hb M10 gD
                    have gF := M11.out.all 4 rfl
                    go_wp2_with (refine wpList_load_midG rfl 35 (.tmp 11) rfl bb 0 rfl F.cells _ gF Try.underlying35 rfl hFl.out ?_)
                    refine (law4 F oF _).mono ?_
                    rintro r w12 ⟨rfl, hb⟩
                    have M12 := Lib.hid (M11.out.go hb)
                    clear hb M11 gF
                    have gA := M12.out.range 3 rfl 0 (u8l D.k) (k_sub D)
                    have gB := M12.out.range 2 rfl 0 (u8l E.k) (k_sub E)
                    go_wp2_with first
                      | (refine wpList_load_midG rfl 32 (.tmp 98) rfl ba 0 rfl (u8l D.k) _ gA Try.underlying32 rfl hDk.out ?_)
                      | (refine wpList_load_midG rfl 32 (.tmp 100) rfl b6 0 rfl (u8l E.k) _ gB Try.underlying32 rfl hkl.out ?_)
                    refine (law5 D.k E.k oD.k oE.out.k _).mono ?_
                    rintro r w13 ⟨rfl, hb⟩
                    have M13 := Lib.hid (M12.out.go hb)
                    clear hb M12 gA gB
                    have gA := M13.out.range 3 rfl 0 (u8l D.k) (k_sub D)
                    have gB := M13.out.range 2 rfl 0 (u8l E.k) (k_sub E)
                    go_wp2_with first
                      | (refine wpList_load_midG rfl 32 (.tmp 106) rfl b6 0 rfl (u8l E.k) _ gB Try.underlying32 rfl hkl.out ?_)
                      | (refine wpList_load_midG rfl 32 (.tmp 108) rfl ba 0 rfl (u8l D.k) _ gA Try.underlying32 rfl hDk.out ?_)
                    refine (law5 E.k D.k oE.out.k oD.k _).mono ?_
                    rintro r w14 ⟨rfl, hb⟩
                    have M14 := Lib.hid (M13.out.go hb)
                    clear hb M13 gA gB
                    go_wp2_with fail
                    refine ⟨⟨q + 1, by omega, by go_num, Mem.left (X := [(ba, D.cells, 35), (bb, F.cells, 35)]) M14.out⟩, by simp [intOf]; omega⟩
                · obtain rfl : q = 8 := by omega
                  go_wp2_with fail
                  refine ⟨⟨m + 1, by omega, by go_num, HM.out⟩, by simp [intOf]; omega⟩
            · obtain rfl : m = 40 := by omega
              go_wp2_with fail
              refine ⟨⟨a + 1, by have := hlt3.out; omega, by go_num, Mem.left (X := [(b6, E.cells, 35)]) HM.out⟩, by have := hlt3.out; simp [intOf]; omega⟩
    · obtain rfl : a = 3 := by omega
      go_wp2_with (refine wpList_buildG rfl 35 [] rfl [] rfl _ (build35z _) ?_)
      rw [← entZ_cells]
      refine (law4 entZ entZ_ok _).mono ?_
      rintro r w3 ⟨rfl, hb⟩
      have M3 := Lib.hid (HM.out.go hb)
      clear hb HM
      go_wp2_with fail
      refine (awake11 _).mono ?_
      rintro r w4 ⟨rfl, hb⟩
      have hbz := (M3.out.go hb).below
      clear hb M3
      go_wp2_with fail
      go_ret
      exact ⟨rfl, hbz⟩
end Go.Proofs.Ytmckngkmlhemoaa
