/- Layer 23 (maps): the chapter's example is told as it is written. Printed by genNl.py. -/
import Derived.Test.YtodhaaaodmcplaaGreatNk
set_option linter.all false
namespace Go.Proofs.YtodhaaaodmcplaaGreat
open Go.RowKit Go.Maps Go.WideMaps
theorem buildK9 (u : World) : BuildRun Tryz.prog 31 #[(0, .int .u8 9)] u (.agg (u8l k9).toArray) := ⟨by kernel_rfl⟩
theorem buildS9 (u : World) : BuildRun Tryz.prog 33 #[(0, .agg (u8l k9).toArray), (2, .int .i64 255)] u (.agg (slC s9.k s9.o s9.m).toArray) := ⟨by kernel_rfl⟩
theorem maskV_of {st : MS} {id un z : Int} (h : ∃ x : Slc, getM st id un = some x ∧ x.1.m = z) : maskV st id un = z := by
  obtain ⟨x, h1, h2⟩ := h
  unfold maskV
  rw [h1]
  exact h2
theorem maskV_none {st : MS} {id un : Int} (h : getM st id un = none) : maskV st id un = 0 := by
  unfold maskV
  rw [h]; rfl
theorem out_below {n0 : Nat} {w w1 w2 : World} {p mb : Nat} {st st2 : MS} (hb : Below n0 w w1) (hn : n0 ≤ w1.heap.size) (h1 : Ms n0 w1 p mb st) (h2 : OutM n0 w1 w2 p mb st2) : Below n0 w w2 :=
  hb.trans (h2.2.below (fun k e => by rcases e with rfl | rfl; exact h1.lo.1; exact h1.lo.2) hn)
theorem wf7 : (Lit.int .i64 7).wf = true := by kernel_rfl
theorem wf8 : (Lit.int .i64 8).wf = true := by kernel_rfl
set_option maxRecDepth 100000 in
set_option maxHeartbeats 4000000 in
theorem awake_p (w : World) : Calls Tryz.prog 7 #[] w fun e w' => e = .returned (.bool true) ∧ Below w.heap.size w w' := by
  obtain ⟨s1, s2, s3, s4, s5, hex⟩ := examples23
  have EX := Lib.hid hex
  have HB5 : Hid (dropE s4 7 = 0) := Lib.hid (by unfold dropE; rw [hex.e5]; rfl)
  clear hex
  go_enter Tryz.func7, Tryz.ntmps7
  go_wp2_with fail
  refine (new_yes 4 w (by omega)).mono ?_
  rintro e w1 ⟨p, mb, rfl, hm, hb⟩
  have M := Lib.hid hm
  have M1 := Lib.hid hm
  have B1 := Lib.hid hb
  have O := Lib.hid (outB (Below.refl _ w1) hm)
  clear hm hb
  go_wp2_with (first | (refine wpList_buildG rfl 31 [(0, .const (.int .u8 9))] rfl [(0, .int .u8 9)] rfl _ (buildK9 _) ?_) | (refine wpList_buildG rfl 33 [(0, .tmp 4), (2, .const (.int .i64 255))] rfl [(0, .agg (u8l k9).toArray), (2, .int .i64 255)] rfl _ (buildS9 _) ?_))
  have c := set_p M.out 1 s9 k9_ok
  rw [EX.out.e1, EX.out.r1] at c
  refine c.mono ?_
  rintro e w2 ⟨rfl, hO⟩
  have O := Lib.hid (outT O.out hO)
  have M := Lib.hid hO.1
  clear hO c
  go_wp2_with fail
  have c := snap_p M.out 7 wf7
  rw [EX.out.e2, EX.out.r2] at c
  refine c.mono ?_
  rintro e w3 ⟨rfl, hO⟩
  have O := Lib.hid (outT O.out hO)
  have M := Lib.hid hO.1
  clear hO c
  go_wp2_with fail
  have c := clear_p M.out 9 2
  rw [EX.out.e3, EX.out.r3] at c
  refine c.mono ?_
  rintro e w4 ⟨rfl, hO⟩
  have O := Lib.hid (outT O.out hO)
  have M := Lib.hid hO.1
  clear hO c
  go_wp2_with fail
  have c := mask_p M.out 0 1 wf0
  rw [maskV_of EX.out.g3] at c
  refine c.mono ?_
  rintro e w5 ⟨rfl, hb⟩
  have O := Lib.hid (outT O.out (outB hb (M.out.go hb)))
  have M := Lib.hid (M.out.go hb)
  clear hb c
  go_wp2_with fail
  have c := mask_p M.out 7 1 wf7
  rw [maskV_of EX.out.h3] at c
  refine c.mono ?_
  rintro e w6 ⟨rfl, hb⟩
  have O := Lib.hid (outT O.out (outB hb (M.out.go hb)))
  have M := Lib.hid (M.out.go hb)
  clear hb c
  go_wp2_with fail
  have c := clear_p M.out 8 8
  rw [EX.out.e4, EX.out.r4] at c
  refine c.mono ?_
  rintro e w7 ⟨rfl, hO⟩
  have O := Lib.hid (outT O.out hO)
  have M := Lib.hid hO.1
  clear hO c
  go_wp2_with fail
  have c := mask_p M.out 0 1 wf0
  rw [maskV_none EX.out.g4] at c
  refine c.mono ?_
  rintro e w8 ⟨rfl, hb⟩
  have O := Lib.hid (outT O.out (outB hb (M.out.go hb)))
  have M := Lib.hid (M.out.go hb)
  clear hb c
  go_wp2_with fail
  have c := back_p M.out 7 wf7
  rw [HB5.out, EX.out.r5] at c
  refine c.mono ?_
  rintro e w9 ⟨rfl, hO⟩
  have O := Lib.hid (outT O.out hO)
  have M := Lib.hid hO.1
  clear hO c
  go_wp2_with fail
  have c := mask_p M.out 0 1 wf0
  rw [maskV_of EX.out.g5] at c
  refine c.mono ?_
  rintro e w10 ⟨rfl, hb⟩
  have O := Lib.hid (outT O.out (outB hb (M.out.go hb)))
  have M := Lib.hid (M.out.go hb)
  clear hb c
  go_wp2_with fail
  have c := snap_p M.out 7 wf7
  rw [EX.out.e6, EX.out.r6] at c
  refine c.mono ?_
  rintro e w11 ⟨rfl, hO⟩
  have O := Lib.hid (outT O.out hO)
  have M := Lib.hid hO.1
  clear hO c
  go_wp2_with fail
  have c := drop_p M.out 8 wf8
  rw [EX.out.e7, EX.out.r7] at c
  refine c.mono ?_
  rintro e w12 ⟨rfl, hO⟩
  have O := Lib.hid (outT O.out hO)
  have M := Lib.hid hO.1
  clear hO c
  go_wp2_with fail
  have c := clear_p M.out 31 2
  rw [EX.out.e8, EX.out.r8] at c
  refine c.mono ?_
  rintro e w13 ⟨rfl, hO⟩
  have O := Lib.hid (outT O.out hO)
  have M := Lib.hid hO.1
  clear hO c
  go_wp2_with fail
  refine (items_p M.out).mono ?_
  rintro e w14 ⟨v, rfl, ho, hb⟩
  rw [EX.out.l9] at ho
  obtain ⟨vA, vc, rfl⟩ := row_shapeS ho
  have O := Lib.hid (outT O.out (outB hb (M.out.go hb)))
  have M := Lib.hid (M.out.go hb)
  clear hb ho
  go_wp2_with fail
  refine (ids_p M.out).mono ?_
  rintro e w15 ⟨v, rfl, ho, hb⟩
  rw [EX.out.l0] at ho
  obtain ⟨vA, vc, rfl⟩ := row_shapeS ho
  have O := Lib.hid (outT O.out (outB hb (M.out.go hb)))
  have M := Lib.hid (M.out.go hb)
  clear hb ho
  go_wp2_with fail
  refine (new_no 0 _ (.inl (by omega))).mono ?_
  rintro e _ ⟨rfl, rfl⟩
  go_wp2_with fail
  go_ret
  exact ⟨rfl, out_below B1.out B1.out.size M1.out O.out⟩
end Go.Proofs.YtodhaaaodmcplaaGreat
