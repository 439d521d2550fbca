/- The law MapsNil (layer 23): it returns true at every input. Printed by genNo.py. -/
import Derived.Test.YtodhaaaodmcplaaNn
import Derived.Test.YtodhaaaodmcplaaDo
set_option linter.all false
namespace Go.Proofs.Ytodhaaaodmcplaa
open Go.RowKit Go.Maps Go.WideMaps
theorem do_len {d : Dox} (h : KeyOk 32 d.s.k) : d.cells.length = 37 := by
  unfold Dox.cells
  rw [List.length_append, slC_len h.len]
  rfl
theorem do_one (d : Dox) : ∀ v ∈ d.cells, v.oneCell' = true := by
  intro v hv
  unfold Dox.cells at hv
  rcases List.mem_append.1 hv with hv | hv
  · simp at hv; rcases hv with rfl | rfl | rfl <;> rfl
  · exact slC_one _ _ _ v hv
theorem do_at {w : World} {b o : Nat} {d : Dox} (h : w.rangeAt b o d.cells) : w.cell? ⟨b, o, none⟩ = some (.int .i64 d.op) ∧ w.cell? ⟨b, o + 1, none⟩ = some (.int .i64 d.a) ∧ w.cell? ⟨b, o + 2, none⟩ = some (.int .i64 d.b) ∧ w.rangeAt b (o + 3) (slC d.s.k d.s.o d.s.m) := by
  refine ⟨h 0 _ rfl, h 1 _ rfl, h 2 _ rfl, fun j v hj => ?_⟩
  have := h (3 + j) v (by
    unfold Dox.cells
    rw [List.getElem?_append_right (by simp)]
    simpa using hj)
  rwa [← Nat.add_assoc] at this
theorem sizeDo {d : Dox} (h : KeyOk 32 d.s.k) : (Try.prog.info? 27).map (·.size) = some d.cells.length := by
  rw [do_len h]; kernel_rfl
set_option maxRecDepth 100000 in
set_option maxHeartbeats 4000000 in
theorem nil3 (d : Dox) (hk : KeyOk 32 d.s.k) (W : World) : Calls Try.prog 3 #[.agg d.cells.toArray] W fun e W' => e = .returned (.bool true) ∧ Below W.heap.size W W' := by
  have HSL : Hid ((Try.prog.info? 25).map (·.size) = some (slC d.s.k d.s.o d.s.m).length) := Lib.hid (by rw [slC_len hk.len]; exact infoSl)
  have HDA : Hid (∀ (w : World) (b : Nat), w.heap[b]? = some (.cells d.cells.toArray 27 (0, 0)) → w.cell? ⟨b, 1, none⟩ = some (.int .i64 d.a) ∧ w.cell? ⟨b, 2, none⟩ = some (.int .i64 d.b) ∧ w.rangeAt b 3 (slC d.s.k d.s.o d.s.m)) := Lib.hid fun w b h => by
    have := do_at (range_of h)
    simp only [Nat.zero_add] at this
    exact ⟨this.2.1, this.2.2.1, this.2.2.2⟩
  have HZO := Lib.hid (oneC sl0)
  obtain ⟨dc, hdc⟩ : ∃ dc, dc = d.cells := ⟨_, rfl⟩
  obtain ⟨cs, hcs⟩ : ∃ cs, cs = slC d.s.k d.s.o d.s.m := ⟨_, rfl⟩
  obtain ⟨da, hda⟩ : ∃ z, z = d.a := ⟨_, rfl⟩
  obtain ⟨db, hdb⟩ : ∃ z, z = d.b := ⟨_, rfl⟩
  rw [← hdc, ← hcs, ← hda, ← hdb] at HDA
  rw [← hcs] at HSL
  rw [← hdc]
  clear hdc hcs hda hdb hk
  go_enter Try.func3, Try.ntmps3
  go_upto_region 1 with (refine Go.Great.wpList_boxTo rfl 27 (.tmp 0) rfl (some 1) rfl _ rfl dc.toArray rfl ?_)
  obtain ⟨q, hq⟩ : ∃ q, q = W.heap.size := ⟨_, rfl⟩
  obtain ⟨w1, hw1⟩ : ∃ z, z = W.alloc (.cells dc.toArray 27) := ⟨_, rfl⟩
  have B1 : Hid (Below W.heap.size W w1) := Lib.hid (by rw [hw1]; exact (Below.refl _ _).alloc (Nat.le_refl _) _)
  have Q1 : Hid (w1.heap[q]? = some (.cells dc.toArray 27 (0, 0))) := Lib.hid (by rw [hw1, hq]; exact heap_new W _)
  rw [← hw1, ← hq]
  clear hw1 hq
  go_wp2_with fail
  refine (awake_p w1).mono ?_
  rintro e w2 ⟨rfl, hb⟩
  have Q2 : Hid (w2.heap[q]? = some (.cells dc.toArray 27 (0, 0))) := Lib.hid ((hb.block q (heap_lt Q1.out)).trans Q1.out)
  have B2 := Lib.hid (B1.out.trans (hb.mono B1.out.size))
  clear hb Q1 B1
  obtain ⟨z, hz⟩ : ∃ z, z = w2.heap.size := ⟨_, rfl⟩
  go_upto_region 4 with (first | (refine wpList_buildG rfl 34 [] rfl [] rfl _ (buildM0 _) ?_) | (refine Go.Great.wpList_boxTo rfl 34 (.tmp 10) rfl (some 11) rfl _ rfl (mxL 0 F0 (.map none)).toArray rfl ?_))
  obtain ⟨w3, hw3⟩ : ∃ w3, w3 = w2.alloc (.cells (mxL 0 F0 (.map none)).toArray 34) := ⟨_, rfl⟩
  obtain ⟨w5, hw5⟩ : ∃ w5, w5 = w3.alloc (.cells #[.pointer none, .pointer (some ⟨z, 0, none⟩)] 29) := ⟨_, rfl⟩
  have hg : z + 1 = w3.heap.size := by rw [hw3, hz]; simp
  have b3 : Below w2.heap.size w2 w3 := by rw [hw3]; exact (Below.refl _ _).alloc (Nat.le_refl _) _
  have b5 : Below w3.heap.size w3 w5 := by rw [hw5]; exact (Below.refl _ _).alloc (Nat.le_refl _) _
  have N5 : Hid (NoM w5 (.pointer (some ⟨z, 0, none⟩))) := Lib.hid (NoM.go (.inr ⟨z, rfl, by rw [hw3]; exact heap_new_at _ hz⟩) b5)
  have G5 : Hid (w5.heap[z + 1]? = some (.cells #[.pointer none, .pointer (some ⟨z, 0, none⟩)] 29 (0, 0))) := Lib.hid (by rw [hw5]; exact heap_new_at _ hg)
  have Q5 : Hid (w5.heap[q]? = some (.cells dc.toArray 27 (0, 0))) := Lib.hid (by
    have h3 := (b3.block q (heap_lt Q2.out)).trans Q2.out
    exact (b5.block q (heap_lt h3)).trans h3)
  have B5 := Lib.hid ((B2.out.trans (b3.mono B2.out.size)).trans (b5.mono (Nat.le_trans B2.out.size b3.size)))
  try rw [← hz]
  try rw [← hw3]
  try rw [← hw5]
  clear hw3 hw5 hg hz b3 b5 Q2 B2
  go_upto_region 5 with fail
  go_loopw [4] (fun i wr => ∃ j : Nat, j ≤ 2 ∧ i = .int .i64 j ∧ Below w5.heap.size w5 wr) (fun i _ => 2 - (Go.RowKit.intOf i).toNat)
  case atStart => exact ⟨0, by omega, rfl, Below.refl _ _⟩
  case round =>
    obtain ⟨j, hj, rfl, hb⟩ := hrel
    have B := Lib.hid hb
    by_cases hlt : j < 2
    · obtain ⟨v, hv, hn⟩ : ∃ v, #[Value.pointer none, .pointer (some ⟨z, 0, none⟩)][j]? = some v ∧ NoM w5 v := by
        rcases (by omega : j = 0 ∨ j = 1) with rfl | rfl
        · exact ⟨_, rfl, .inl rfl⟩
        · exact ⟨_, rfl, N5.out⟩
      have HN := Lib.hid (hn.go hb)
      have cg : wr.cell? ⟨z + 1, j, none⟩ = some v := block_cell ((hb.block (z + 1) (heap_lt G5.out)).trans G5.out) j v hv
      have Q := Lib.hid ((hb.block q (heap_lt Q5.out)).trans Q5.out)
      have c1 := (HDA.out _ _ Q.out).1
      have c2 := (HDA.out _ _ Q.out).2.1
      have i1 : (0 : Int) ≤ j := by omega
      have i2 : (j : Int) < 2 := by omega
      clear hv hn hb
      go_upto_region 8 with fail
      clear cg
      go_wp2_with fail
      refine (get_no HN.out da db).mono ?_
      rintro e w6 ⟨rfl, hb⟩
      have HN := Lib.hid (HN.out.go hb)
      have Q := Lib.hid ((hb.block q (heap_lt Q.out)).trans Q.out)
      have B := Lib.hid (B.out.trans (hb.mono B.out.size))
      clear hb c1 c2
      obtain ⟨b7, hb7⟩ : ∃ b, b = w6.heap.size := ⟨_, rfl⟩
      go_upto_region 9 with (refine wpList_boxed rfl 25 6 rfl rfl zS (zeroVS _) (.tmp 28) rfl rfl rfl zS rfl rfl sizeZ rfl HZO.out ?_; intro w7 hb h7 s7)
      rw [← hb7] at h7 ⊢
      have HN := Lib.hid (HN.out.go hb)
      have Q := Lib.hid ((hb.block q (heap_lt Q.out)).trans Q.out)
      have B := Lib.hid (B.out.trans (hb.mono B.out.size))
      have R7 := Lib.hid (range_of h7)
      have c1 := (HDA.out _ _ Q.out).1
      have c2 := (HDA.out _ _ Q.out).2.1
      have R3 := Lib.hid (HDA.out _ _ Q.out).2.2
      clear hb h7 s7 hb7
      go_wp2_with (first | (refine wpList_load_midG rfl 25 (.tmp 6) rfl b7 0 rfl zS _ R7.out Try.underlying25 rfl sizeZ ?_) | (refine wpList_load_midG rfl 25 (.tmp 40) rfl q 3 rfl cs _ R3.out Try.underlying25 rfl HSL.out ?_) | (refine wpList_buildG rfl 25 [] rfl [] rfl _ (buildS0 _) ?_) | (refine wpList_neqG rfl 25 (.tmp 32) (.tmp 33) rfl zS.toArray zS.toArray rfl rfl true eqgSl (eqrSl sl0 _) ?_))
      refine (set_no HN.out da cs).mono ?_
      rintro e w8 ⟨rfl, hb⟩
      have HN := Lib.hid (HN.out.go hb)
      have Q := Lib.hid ((hb.block q (heap_lt Q.out)).trans Q.out)
      have B := Lib.hid (B.out.trans (hb.mono B.out.size))
      clear hb c1 c2 R3 R7
      have c1 := (HDA.out _ _ Q.out).1
      have c2 := (HDA.out _ _ Q.out).2.1
      go_wp2_with fail
      refine (clear_no HN.out da db).mono ?_
      rintro e _ ⟨rfl, rfl⟩
      go_wp2_with fail
      refine (snap_no HN.out da).mono ?_
      rintro e _ ⟨rfl, rfl⟩
      go_wp2_with fail
      refine (drop_no HN.out da).mono ?_
      rintro e _ ⟨rfl, rfl⟩
      go_wp2_with fail
      refine (back_no HN.out da).mono ?_
      rintro e _ ⟨rfl, rfl⟩
      go_wp2_with fail
      refine (ids_no HN.out).mono ?_
      rintro e w9 ⟨rfl, hb⟩
      have HN := Lib.hid (HN.out.go hb)
      have B := Lib.hid (B.out.trans (hb.mono B.out.size))
      clear hb c1 c2
      go_wp2_with fail
      refine (items_no HN.out).mono ?_
      rintro e _ ⟨rfl, rfl⟩
      go_wp2_with fail
      exact ⟨⟨j + 1, by omega, by push_cast; rfl, B.out⟩, by simp [Go.RowKit.intOf]; omega⟩
    · obtain rfl : j = 2 := by omega
      clear hb
      go_wp2_with fail
      go_ret
      exact ⟨rfl, B5.out.trans (B.out.mono B5.out.size)⟩
end Go.Proofs.Ytodhaaaodmcplaa
