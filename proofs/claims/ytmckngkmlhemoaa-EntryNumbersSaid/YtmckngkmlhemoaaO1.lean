/- The document's Of (layer 14) at an item of kind 1. Printed by genO.py. -/
import Derived.Test.YtmckngkmlhemoaaO0
namespace Go.Proofs.Ytmckngkmlhemoaa
open Go.RowKit
set_option maxRecDepth 100000 in
set_option maxHeartbeats 4000000 in
theorem of10_1 (i : Itm) (ok : i.Ok) (w : World) (h1 : i.kind = 1) (hr : i.right = true) : Calls Try.prog 10 #[.agg i.cells.toArray] w fun e w' => e = .returned (ofOut i) ∧ Below w.heap.size w w' := by
  have M := Lib.hid (((Mem.nil w).push i.cells 30).push zE 35)
  have z35 := zero35
  have HI := Lib.hid (Itm.is ok)
  have HR := Lib.hid hr
  have hlc : Hid ((Try.prog.info? 30).map (·.size) = some i.cells.length) := Lib.hid (by rw [Itm.len ok]; exact info30)
  have hlk : Hid (i.key.length = 32) := Lib.hid ok.key.1
  have hsk : Hid (i.skey.length = 32) := Lib.hid ok.skey.1
  have H1 := Lib.hid h1
  obtain ⟨i5, hi5, hz5, hs5, hb5⟩ := inf5
  clear hr
  go_enter Try.func10, Try.ntmps10
  go_upto_region 1 with fail
  obtain ⟨w1, hw1⟩ : ∃ w1, w1 = (w.alloc (Obj.cells i.cells.toArray 30)).alloc (.cells zE.toArray 35) := ⟨_, rfl⟩
  obtain ⟨b1, hb1⟩ : ∃ b, b = w.heap.size := ⟨_, rfl⟩
  obtain ⟨b2, hb2⟩ : ∃ b, b = (w.alloc (Obj.cells i.cells.toArray 30)).heap.size := ⟨_, rfl⟩
  have hb2' : b2 = w.heap.size + 1 := by rw [hb2]; simp
  have M1 : Hid (Mem w w1 [(b1, i.cells, 30), (b2, zE, 35)]) := Lib.hid (by rw [hw1, hb1, hb2]; exact M.out)
  rw [← hw1, ← hb2', ← hb1]
  clear hw1 hb1 hb2 hb2' M h1
  have g1 := M1.out.all 0 rfl
  go_wp2_with (refine wpList_load_midG rfl 30 (.tmp 1) rfl b1 0 rfl i.cells _ g1 Try.underlying30 rfl hlc.out ?_)
  refine (right21 i ok _).mono ?_
  rintro e w2 ⟨rfl, hb⟩
  rw [HR.out]
  have M2 := Lib.hid (M1.out.go hb)
  clear hb g1 M1
  have c0 : w2.cell? ⟨b1, 0, none⟩ = some (.int .u8 1) := M2.out.cell 0 rfl 0 (by rw [← H1.out]; rfl)
  go_upto_region 4 with fail
  have R3 : Hid (Mr w (w2.alloc (.cells #[.int .u8 1] 5)) 5 [(b1, i.cells, 30), (b2, zE, 35)] [(.slice (some ⟨w2.heap.size, 0, none⟩) 1 1, [.int .u8 1]), (.slice none 0 0, [])]) := Lib.hid ((Mr.ofMem M2.out).make [.int .u8 1] (by simp [maxLen])).nil
  obtain ⟨w3, hw3⟩ : ∃ w3, w3 = w2.alloc (.cells #[.int .u8 1] 5) := ⟨_, rfl⟩
  obtain ⟨g0, hg0⟩ : ∃ g, g = w2.heap.size := ⟨_, rfl⟩
  rw [← hw3, ← hg0] at R3 ⊢
  clear hw3 hg0 M2 c0
  have c0 : w3.cell? ⟨b1, 0, none⟩ = some (.int .u8 1) := R3.out.mem.cell 0 rfl 0 (by rw [← H1.out]; rfl)
  go_wp2_with fail
  clear c0
  go_loopw [4, 6] (fun v_ i_ wr => ∃ (k g cap : Nat), k ≤ 32 ∧ i_ = .int .i64 k ∧ v_ = .slice (some ⟨g, 0, none⟩) (1 + k) cap ∧ Mr w wr 5 [(b1, i.cells, 30), (b2, zE, 35)] [(.slice (some ⟨g, 0, none⟩) (1 + k) cap, u8l (1 :: i.key.take k)), (.slice none 0 0, [])]) (fun _ i_ _ => 32 - (intOf i_).toNat)
  case atStart => exact ⟨0, g0, 1, Nat.zero_le _, rfl, rfl, R3.out⟩
  case round =>
    clear R3
    obtain ⟨k, g, cap, hk, rfl, rfl, hm⟩ := hrel
    have HM := Lib.hid hm
    clear hm
    by_cases hlt : k < 32
    · obtain ⟨x, hx⟩ : ∃ x, i.key[k]? = some x := ⟨_, List.getElem?_eq_getElem (by rw [hlk.out]; exact hlt)⟩
      have g1 := (HI.out.at_ (HM.out.mem.get 0 rfl)).2.1
      have c1 : wr.cell? ⟨b1, 1 + k, none⟩ = some (.int .u8 x) := g1 k _ (by simp [u8l, hx])
      have HX := Lib.hid hx
      clear g1 hx
      have j1 : (0 : Int) ≤ k := by omega
      have j2 : (k : Int) < 32 := by omega
      have hlen : Hid ((u8l (1 :: i.key.take k)).length = 1 + k) := Lib.hid (by rw [u8l_len]; simp [hlk.out]; omega)
      have HN : Hid (Mr w (wr.alloc (.cells #[.int .u8 x] 5)) 5 [(b1, i.cells, 30), (b2, zE, 35)] [(.slice (some ⟨g, 0, none⟩) (1 + k) cap, u8l (1 :: i.key.take k)), (.slice none 0 0, [])]) := Lib.hid (HM.out.go ((Below.refl _ wr).alloc (Nat.le_refl _) _))
      have hr1 : (wr.alloc (.cells #[.int .u8 x] 5)).rangeAt wr.heap.size 0 [.int .u8 x] := range_new wr [.int .u8 x] 5
      go_wp2_with (at_builtin; refine wpList_append_row rfl (.tmp 31) (.tmp 36) 54 rfl i5 (.int .u8 0) Try.underlying54 hi5 hz5 hs5 hb5 rfl HN.out 0 _ _ rfl rfl wr.heap.size 0 1 1 [.int .u8 x] rfl rfl hr1 (by simp [Value.oneCell']) (by omega) (by rw [hlen.out]; omega) ?_; intro g2 cap2 w4 hw4)
      refine ⟨⟨k + 1, g2, cap2, by omega, by go_num, by rw [hlen.out]; congr 1, ?_⟩, by simp [intOf]; omega⟩
      have q := hw4.out
      rw [hlen.out] at q
      rw [take_snoc HX.out, ← List.cons_append, u8l_app]
      exact q
    · obtain rfl : k = 32 := by omega
      rw [List.take_of_length_le (by rw [hlk.out]; exact Nat.le_refl _)] at HM
      go_upto_region 12 with fail
      have N0 : Hid (Mr w wr.drew 5 [(b1, i.cells, 30), (b2, zE, 35)] [(.slice (some ⟨g, 0, none⟩) (1 + 32) cap, u8l (1 :: i.key)), (.slice none 0 0, [])]) := Lib.hid (HM.out.drew 1)
      have hH0 : (fun w' => w'.cell? ⟨b1, 33, none⟩ = some (.int .i64 i.pa) ∧ w'.cell? ⟨b1, 34, none⟩ = some (.int .i64 i.ps) ∧ w'.cell? ⟨b1, 35, none⟩ = some (.int .i64 i.pu) ∧ w'.cell? ⟨b1, 36, none⟩ = some (.int .i64 i.pr)) wr.drew := (let q := (HI.out.at_ (N0.out.mem.get 0 rfl)).2.2.1; ⟨q 0 _ rfl, q 1 _ rfl, q 2 _ rfl, q 3 _ rfl⟩)
      refine wp_region_held_drew (S := fun w' => w'.cell? ⟨b1, 33, none⟩ = some (.int .i64 i.pa) ∧ w'.cell? ⟨b1, 34, none⟩ = some (.int .i64 i.ps) ∧ w'.cell? ⟨b1, 35, none⟩ = some (.int .i64 i.pu) ∧ w'.cell? ⟨b1, 36, none⟩ = some (.int .i64 i.pr)) follows hH0 (fun hHeld => ?_)
      obtain ⟨u0, hu0⟩ : ∃ u, u = wr.drew := ⟨_, rfl⟩
      rw [← hu0] at N0 hHeld ⊢
      clear hu0 hH0 HM
      refine wpAnyH_take (i := 0) (v := ?_) (by simp only [List.getElem?_toArray, List.getElem?_cons_zero]; rfl) (by kernel_rfl) (by kernel_rfl) (by kernel_rfl) (by intro _ _ _ h; exact h) (Or.inl ⟨by rfl, ?_⟩) hHeld ?_
      rotate_left
      · (intro w hSw; (try dsimp only at hSw); go_simp; try with_reducible rfl)
      try simp only [Act.put, List.setIfInBounds_toArray, List.set_cons_zero, List.set_cons_succ]
      refine wpAnyH_take (i := 1) (v := ?_) (by simp only [List.getElem?_toArray, List.getElem?_cons_zero, List.getElem?_cons_succ]; rfl) (by kernel_rfl) (by kernel_rfl) (by kernel_rfl) (by intro _ _ _ h; exact h) (Or.inl ⟨by rfl, ?_⟩) hHeld ?_
      rotate_left
      · (intro w hSw; (try dsimp only at hSw); go_simp; try with_reducible rfl)
      try simp only [Act.put, List.setIfInBounds_toArray, List.set_cons_zero, List.set_cons_succ]
      refine wpAnyH_take (i := 2) (v := ?_) (by simp only [List.getElem?_toArray, List.getElem?_cons_zero, List.getElem?_cons_succ]; rfl) (by kernel_rfl) (by kernel_rfl) (by kernel_rfl) (by intro _ _ _ h; exact h) (Or.inl ⟨by rfl, ?_⟩) hHeld ?_
      rotate_left
      · (intro w hSw; (try dsimp only at hSw); go_simp; try with_reducible rfl)
      try simp only [Act.put, List.setIfInBounds_toArray, List.set_cons_zero, List.set_cons_succ]
      refine wpAnyH_take (i := 4) (v := ?_) (by simp only [List.getElem?_toArray, List.getElem?_cons_zero, List.getElem?_cons_succ]; rfl) (by kernel_rfl) (by kernel_rfl) (by kernel_rfl) (by intro _ _ _ h; exact h) (Or.inl ⟨by rfl, ?_⟩) hHeld ?_
      rotate_left
      · (intro w hSw; (try dsimp only at hSw); go_simp; try with_reducible rfl)
      try simp only [Act.put, List.setIfInBounds_toArray, List.set_cons_zero, List.set_cons_succ]
      refine wpAnyH_take (i := 5) (v := ?_) (by simp only [List.getElem?_toArray, List.getElem?_cons_zero, List.getElem?_cons_succ]; rfl) (by kernel_rfl) (by kernel_rfl) (by kernel_rfl) (by intro _ _ _ h; exact h) (Or.inl ⟨by rfl, ?_⟩) hHeld ?_
      rotate_left
      · (intro w hSw; (try dsimp only at hSw); go_simp; try with_reducible rfl)
      try simp only [Act.put, List.setIfInBounds_toArray, List.set_cons_zero, List.set_cons_succ]
      refine wpAnyH_take (i := 6) (v := ?_) (by simp only [List.getElem?_toArray, List.getElem?_cons_zero, List.getElem?_cons_succ]; rfl) (by kernel_rfl) (by kernel_rfl) (by kernel_rfl) (by intro _ _ _ h; exact h) (Or.inl ⟨by rfl, ?_⟩) hHeld ?_
      rotate_left
      · (intro w hSw; (try dsimp only at hSw); go_simp; try with_reducible rfl)
      try simp only [Act.put, List.setIfInBounds_toArray, List.set_cons_zero, List.set_cons_succ]
      refine wpAnyH_take (i := 9) (v := ?_) (by simp only [List.getElem?_toArray, List.getElem?_cons_zero, List.getElem?_cons_succ]; rfl) (by kernel_rfl) (by kernel_rfl) (by kernel_rfl) (by intro _ _ _ h; exact h) (Or.inl ⟨by rfl, ?_⟩) hHeld ?_
      rotate_left
      · (intro w hSw; (try dsimp only at hSw); go_simp; try with_reducible rfl)
      try simp only [Act.put, List.setIfInBounds_toArray, List.set_cons_zero, List.set_cons_succ]
      refine wpAnyH_take (i := 10) (v := ?_) (by simp only [List.getElem?_toArray, List.getElem?_cons_zero, List.getElem?_cons_succ]; rfl) (by kernel_rfl) (by kernel_rfl) (by kernel_rfl) (by intro _ _ _ h; exact h) (Or.inl ⟨by rfl, ?_⟩) hHeld ?_
      rotate_left
      · (intro w hSw; (try dsimp only at hSw); go_simp; try with_reducible rfl)
      try simp only [Act.put, List.setIfInBounds_toArray, List.set_cons_zero, List.set_cons_succ]
      refine wpAnyH_take (i := 11) (v := ?_) (by simp only [List.getElem?_toArray, List.getElem?_cons_zero, List.getElem?_cons_succ]; rfl) (by kernel_rfl) (by kernel_rfl) (by kernel_rfl) (by intro _ _ _ h; exact h) (Or.inl ⟨by rfl, ?_⟩) hHeld ?_
      rotate_left
      · (intro w hSw; (try dsimp only at hSw); go_simp; try with_reducible rfl)
      try simp only [Act.put, List.setIfInBounds_toArray, List.set_cons_zero, List.set_cons_succ]
      refine wpAnyH_take (i := 14) (v := ?_) (by simp only [List.getElem?_toArray, List.getElem?_cons_zero, List.getElem?_cons_succ]; rfl) (by kernel_rfl) (by kernel_rfl) (by kernel_rfl) (by intro _ _ _ h; exact h) (Or.inl ⟨by rfl, ?_⟩) hHeld ?_
      rotate_left
      · (intro w hSw; (try dsimp only at hSw); go_simp; try with_reducible rfl)
      try simp only [Act.put, List.setIfInBounds_toArray, List.set_cons_zero, List.set_cons_succ]
      refine wpAnyH_take (i := 15) (v := ?_) (by simp only [List.getElem?_toArray, List.getElem?_cons_zero, List.getElem?_cons_succ]; rfl) (by kernel_rfl) (by kernel_rfl) (by kernel_rfl) (by intro _ _ _ h; exact h) (Or.inl ⟨by rfl, ?_⟩) hHeld ?_
      rotate_left
      · (intro w hSw; (try dsimp only at hSw); go_simp; try with_reducible rfl)
      try simp only [Act.put, List.setIfInBounds_toArray, List.set_cons_zero, List.set_cons_succ]
      refine wpAnyH_take (i := 16) (v := ?_) (by simp only [List.getElem?_toArray, List.getElem?_cons_zero, List.getElem?_cons_succ]; rfl) (by kernel_rfl) (by kernel_rfl) (by kernel_rfl) (by intro _ _ _ h; exact h) (Or.inl ⟨by rfl, ?_⟩) hHeld ?_
      rotate_left
      · (intro w hSw; (try dsimp only at hSw); go_simp; try with_reducible rfl)
      try simp only [Act.put, List.setIfInBounds_toArray, List.set_cons_zero, List.set_cons_succ]
      refine wpAnyH_ready (rs := [3]) (by kernel_rfl) (by simp) ?_
      refine AllReadyH.cons (by simp only [List.getElem?_toArray, List.getElem?_cons_zero, List.getElem?_cons_succ]; rfl) (fun K hK => ?_) AllReadyH.nil
      go_simp
      refine (four22 i.pa _).mono ?_
      rintro e v0 ⟨rfl, hv0⟩
      obtain ⟨q0, hq0⟩ : ∃ q, q = u0.heap.size := ⟨_, rfl⟩
      have N1 : Hid (Mr w v0 5 [(b1, i.cells, 30), (b2, zE, 35)] [(.slice (some ⟨g, 0, none⟩) (1 + 32) cap, u8l (1 :: i.key)), (.slice none 0 0, []), (.slice (some ⟨q0, 0, none⟩) 4 4, u8l (fours [i.pa]))]) := Lib.hid (by
        rw [hv0, hq0]
        exact N0.out.make (u8l (fourL i.pa)) (by simp [u8l_len, fourL, maxLen]))
      rw [← hq0]
      refine hK.out _ _ (let q := (HI.out.at_ (N1.out.mem.get 0 rfl)).2.2.1; ⟨q 0 _ rfl, q 1 _ rfl, q 2 _ rfl, q 3 _ rfl⟩) (fun hHeld => ?_)
      clear hK K hv0 hq0 N0
      try simp only [Act.put, List.setIfInBounds_toArray, List.set_cons_zero, List.set_cons_succ]
      refine wpAnyH_ready (rs := [7]) (by kernel_rfl) (by simp) ?_
      refine AllReadyH.cons (by simp only [List.getElem?_toArray, List.getElem?_cons_zero, List.getElem?_cons_succ]; rfl) (fun K hK => ?_) AllReadyH.nil
      go_simp
      refine (four22 i.ps _).mono ?_
      rintro e x1 ⟨rfl, hx1⟩
      have X1 : Hid (Mr w x1 5 [(b1, i.cells, 30), (b2, zE, 35)] [(.slice (some ⟨g, 0, none⟩) (1 + 32) cap, u8l (1 :: i.key)), (.slice none 0 0, []), (.slice (some ⟨q0, 0, none⟩) 4 4, u8l (fours [i.pa]))]) := Lib.hid (by
        rw [hx1]
        exact N1.out.go ((Below.refl _ _).alloc (Nat.le_refl _) _))
      have hr1 : x1.rangeAt v0.heap.size 0 (u8l (fourL i.ps)) := by
        rw [hx1]
        exact range_new v0 (u8l (fourL i.ps)) 5
      refine hK.out _ _ (let q := (HI.out.at_ (X1.out.mem.get 0 rfl)).2.2.1; ⟨q 0 _ rfl, q 1 _ rfl, q 2 _ rfl, q 3 _ rfl⟩) (fun hHeld => ?_)
      clear hK K hx1 N1
      try simp only [Act.put, List.setIfInBounds_toArray, List.set_cons_zero, List.set_cons_succ]
      refine wpAnyH_ready (rs := [8]) (by kernel_rfl) (by simp) ?_
      refine AllReadyH.cons (by simp only [List.getElem?_toArray, List.getElem?_cons_zero, List.getElem?_cons_succ]; rfl) (fun K hK => ?_) AllReadyH.nil
      rw [if_pos (by rfl)]
      refine wp_append_row (.tmp 41) (.tmp 45) 54 rfl i5 (.int .u8 0) Try.underlying54 hi5 hz5 hs5 hb5 rfl X1.out 2 _ _ rfl rfl v0.heap.size 0 4 4 (u8l (fourL i.ps)) rfl rfl hr1 u8l_one (by omega) (by simp [u8l_len, fours_len]) ?_
      intro g1 c1 y1 hy1
      have Y1 : Hid (Mr w y1 5 [(b1, i.cells, 30), (b2, zE, 35)] [(.slice (some ⟨g, 0, none⟩) (1 + 32) cap, u8l (1 :: i.key)), (.slice none 0 0, []), (.slice (some ⟨g1, 0, none⟩) 8 c1, u8l (fours [i.pa, i.ps]))]) := Lib.hid (by
        have q := hy1.out
        rw [← u8l_app, ← fours_snoc] at q
        exact q)
      rw [show (u8l (fours [i.pa])).length + 4 = 8 from rfl]
      refine hK.out _ _ (let q := (HI.out.at_ (Y1.out.mem.get 0 rfl)).2.2.1; ⟨q 0 _ rfl, q 1 _ rfl, q 2 _ rfl, q 3 _ rfl⟩) (fun hHeld => ?_)
      clear hK K hy1 X1 hr1
      try simp only [Act.put, List.setIfInBounds_toArray, List.set_cons_zero, List.set_cons_succ]
      refine wpAnyH_ready (rs := [12]) (by kernel_rfl) (by simp) ?_
      refine AllReadyH.cons (by simp only [List.getElem?_toArray, List.getElem?_cons_zero, List.getElem?_cons_succ]; rfl) (fun K hK => ?_) AllReadyH.nil
      go_simp
      refine (four22 i.pu _).mono ?_
      rintro e x2 ⟨rfl, hx2⟩
      have X2 : Hid (Mr w x2 5 [(b1, i.cells, 30), (b2, zE, 35)] [(.slice (some ⟨g, 0, none⟩) (1 + 32) cap, u8l (1 :: i.key)), (.slice none 0 0, []), (.slice (some ⟨g1, 0, none⟩) 8 c1, u8l (fours [i.pa, i.ps]))]) := Lib.hid (by
        rw [hx2]
        exact Y1.out.go ((Below.refl _ _).alloc (Nat.le_refl _) _))
      have hr2 : x2.rangeAt y1.heap.size 0 (u8l (fourL i.pu)) := by
        rw [hx2]
        exact range_new y1 (u8l (fourL i.pu)) 5
      refine hK.out _ _ (let q := (HI.out.at_ (X2.out.mem.get 0 rfl)).2.2.1; ⟨q 0 _ rfl, q 1 _ rfl, q 2 _ rfl, q 3 _ rfl⟩) (fun hHeld => ?_)
      clear hK K hx2 Y1
      try simp only [Act.put, List.setIfInBounds_toArray, List.set_cons_zero, List.set_cons_succ]
      refine wpAnyH_ready (rs := [13]) (by kernel_rfl) (by simp) ?_
      refine AllReadyH.cons (by simp only [List.getElem?_toArray, List.getElem?_cons_zero, List.getElem?_cons_succ]; rfl) (fun K hK => ?_) AllReadyH.nil
      rw [if_pos (by rfl)]
      refine wp_append_row (.tmp 46) (.tmp 50) 54 rfl i5 (.int .u8 0) Try.underlying54 hi5 hz5 hs5 hb5 rfl X2.out 2 _ _ rfl rfl y1.heap.size 0 4 4 (u8l (fourL i.pu)) rfl rfl hr2 u8l_one (by omega) (by simp [u8l_len, fours_len]) ?_
      intro g2 c2 y2 hy2
      have Y2 : Hid (Mr w y2 5 [(b1, i.cells, 30), (b2, zE, 35)] [(.slice (some ⟨g, 0, none⟩) (1 + 32) cap, u8l (1 :: i.key)), (.slice none 0 0, []), (.slice (some ⟨g2, 0, none⟩) 12 c2, u8l (fours [i.pa, i.ps, i.pu]))]) := Lib.hid (by
        have q := hy2.out
        rw [← u8l_app, ← fours_snoc] at q
        exact q)
      rw [show (u8l (fours [i.pa, i.ps])).length + 4 = 12 from rfl]
      refine hK.out _ _ (let q := (HI.out.at_ (Y2.out.mem.get 0 rfl)).2.2.1; ⟨q 0 _ rfl, q 1 _ rfl, q 2 _ rfl, q 3 _ rfl⟩) (fun hHeld => ?_)
      clear hK K hy2 X2 hr2
      try simp only [Act.put, List.setIfInBounds_toArray, List.set_cons_zero, List.set_cons_succ]
      refine wpAnyH_ready (rs := [17]) (by kernel_rfl) (by simp) ?_
      refine AllReadyH.cons (by simp only [List.getElem?_toArray, List.getElem?_cons_zero, List.getElem?_cons_succ]; rfl) (fun K hK => ?_) AllReadyH.nil
      go_simp
      refine (four22 i.pr _).mono ?_
      rintro e x3 ⟨rfl, hx3⟩
      have X3 : Hid (Mr w x3 5 [(b1, i.cells, 30), (b2, zE, 35)] [(.slice (some ⟨g, 0, none⟩) (1 + 32) cap, u8l (1 :: i.key)), (.slice none 0 0, []), (.slice (some ⟨g2, 0, none⟩) 12 c2, u8l (fours [i.pa, i.ps, i.pu]))]) := Lib.hid (by
        rw [hx3]
        exact Y2.out.go ((Below.refl _ _).alloc (Nat.le_refl _) _))
      have hr3 : x3.rangeAt y2.heap.size 0 (u8l (fourL i.pr)) := by
        rw [hx3]
        exact range_new y2 (u8l (fourL i.pr)) 5
      refine hK.out _ _ (let q := (HI.out.at_ (X3.out.mem.get 0 rfl)).2.2.1; ⟨q 0 _ rfl, q 1 _ rfl, q 2 _ rfl, q 3 _ rfl⟩) (fun hHeld => ?_)
      clear hK K hx3 Y2
      try simp only [Act.put, List.setIfInBounds_toArray, List.set_cons_zero, List.set_cons_succ]
      refine wpAnyH_ready (rs := [18]) (by kernel_rfl) (by simp) ?_
      refine AllReadyH.cons (by simp only [List.getElem?_toArray, List.getElem?_cons_zero, List.getElem?_cons_succ]; rfl) (fun K hK => ?_) AllReadyH.nil
      rw [if_pos (by rfl)]
      refine wp_append_row (.tmp 51) (.tmp 55) 54 rfl i5 (.int .u8 0) Try.underlying54 hi5 hz5 hs5 hb5 rfl X3.out 2 _ _ rfl rfl y2.heap.size 0 4 4 (u8l (fourL i.pr)) rfl rfl hr3 u8l_one (by omega) (by simp [u8l_len, fours_len]) ?_
      intro g3 c3 y3 hy3
      have Y3 : Hid (Mr w y3 5 [(b1, i.cells, 30), (b2, zE, 35)] [(.slice (some ⟨g, 0, none⟩) (1 + 32) cap, u8l (1 :: i.key)), (.slice none 0 0, []), (.slice (some ⟨g3, 0, none⟩) 16 c3, u8l (fours [i.pa, i.ps, i.pu, i.pr]))]) := Lib.hid (by
        have q := hy3.out
        rw [← u8l_app, ← fours_snoc] at q
        exact q)
      rw [show (u8l (fours [i.pa, i.ps, i.pu])).length + 4 = 16 from rfl]
      refine hK.out _ _ (let q := (HI.out.at_ (Y3.out.mem.get 0 rfl)).2.2.1; ⟨q 0 _ rfl, q 1 _ rfl, q 2 _ rfl, q 3 _ rfl⟩) (fun hHeld => ?_)
      clear hK K hy3 X3 hr3
      try simp only [Act.put, List.setIfInBounds_toArray, List.set_cons_zero, List.set_cons_succ]
      refine wpAnyH_take (i := 19) (v := ?_) (by simp only [List.getElem?_toArray, List.getElem?_cons_zero, List.getElem?_cons_succ]; rfl) (by kernel_rfl) (by kernel_rfl) (by kernel_rfl) (by intro _ _ _ h; exact h) (Or.inl ⟨by rfl, ?_⟩) hHeld ?_
      rotate_left
      · (intro w hSw; (try dsimp only at hSw); go_simp; try with_reducible rfl)
      try simp only [Act.put, List.setIfInBounds_toArray, List.set_cons_zero, List.set_cons_succ]
      refine wpAnyH_done (by kernel_rfl) ?_ _
      clear hHeld
      have RT := Lib.hid (Y3.out.erase 1)
      clear Y3
      obtain ⟨wt, hwt⟩ : ∃ w', w' = y3 := ⟨_, rfl⟩
      rw [← hwt] at RT ⊢
      clear hwt
      have RT2 : Hid (Mr w wt 5 [(b1, i.cells, 30), (b2, zE, 35)] [(.slice (some ⟨g, 0, none⟩) 33 cap, u8l (1 :: i.key)), (.slice (some ⟨g3, 0, none⟩) 16 c3, u8l (fours [i.pa, i.ps, i.pu, i.pr]))]) := Lib.hid RT.out
      clear RT
      have hkl : Hid ((1 :: i.key).length = 33) := Lib.hid (by simp [hlk.out])
      have hvl : Hid ((fours [i.pa, i.ps, i.pu, i.pr]).length = 16) := Lib.hid (by simp [fours_len])
      have HE : Hid (pz 40 (1 :: i.key) ++ (pz 40 (fours [i.pa, i.ps, i.pu, i.pr]) ++ []) = i.ent.cells) := Lib.hid (ent1_pz H1.out hlk.out)
      obtain ⟨ks, hks⟩ : ∃ ks, ks = 1 :: i.key := ⟨_, rfl⟩
      obtain ⟨vs, hvs⟩ : ∃ vs, vs = fours [i.pa, i.ps, i.pu, i.pr] := ⟨_, rfl⟩
      rw [← hks] at hkl
      rw [← hvs] at hvl
      rw [← hks, ← hvs] at RT2 HE
      clear hks hvs
      have hel : Hid (i.ent.cells.length = 80) := Lib.hid (ent_len ok)
      go_upto_region 21 with fail
      obtain ⟨b8, hb8⟩ : ∃ b, b = wt.heap.size := ⟨_, rfl⟩
      have R8 : Hid (Mr w (wt.alloc (.cells zE.toArray 35)) 5 [(b1, i.cells, 30), (b2, zE, 35), (b8, [] ++ (pz 40 (ks.take 0) ++ zb 40), 35)] [(.slice (some ⟨g, 0, none⟩) 33 cap, u8l ks), (.slice (some ⟨g3, 0, none⟩) 16 c3, u8l vs)]) := Lib.hid (by
        have q := RT2.out.push zE 35
        rw [show zE = [] ++ (pz 40 (ks.take 0) ++ zb 40) from by rw [List.take_zero, pz_nil, ← zb_add]; rfl] at q ⊢
        rw [hb8]; exact q)
      obtain ⟨w8, hw8⟩ : ∃ w', w' = wt.alloc (.cells zE.toArray 35) := ⟨_, rfl⟩
      rw [← hw8] at R8 ⊢
      rw [← hb8]
      clear hw8 hb8 RT2
      go_wp2_with fail
      go_loopw [9] (fun i_ wr => ∃ n : Nat, n ≤ 33 ∧ i_ = .int .i64 n ∧ Mr w wr 5 [(b1, i.cells, 30), (b2, zE, 35), (b8, [] ++ (pz 40 (ks.take n) ++ zb 40), 35)] [(.slice (some ⟨g, 0, none⟩) 33 cap, u8l ks), (.slice (some ⟨g3, 0, none⟩) 16 c3, u8l vs)]) (fun i_ _ => 33 - (intOf i_).toNat)
      case atStart => exact ⟨0, Nat.zero_le _, rfl, R8.out⟩
      case round =>
        clear R8
        obtain ⟨n, hn, rfl, hm⟩ := hrel
        have HM := Lib.hid hm
        clear hm
        by_cases hlt : n < 33
        · obtain ⟨x, hx⟩ : ∃ x, ks[n]? = some x := ⟨_, List.getElem?_eq_getElem (by rw [hkl.out]; exact hlt)⟩
          obtain ⟨q_, hq_, c1⟩ := HM.out.at_ 0 rfl n (v := .int .u8 x) (by simp [u8l, hx])
          simp only [Option.some.injEq, Addr.mk.injEq, and_true] at hq_
          subst hq_
          have hsz : n < ([] ++ (pz 40 (ks.take n) ++ zb 40)).length := by simp [pz, u8l_len, zb_len]; omega
          obtain ⟨u, hu⟩ : ∃ u, wr.cell? ⟨b8, n, none⟩ = some u := ⟨_, HM.out.mem.cell 2 rfl n (List.getElem?_eq_getElem hsz)⟩
          have hfz : wr.frozen? ⟨b8, n, none⟩ = false := HM.out.mem.froz 2 rfl n
          have HX := Lib.hid hx
          have j1 : (0 : Int) ≤ n := by omega
          have j2 : (n : Int) < 33 := by omega
          have j3 : (n : Int) < 40 := by omega
          clear hx hsz
          go_wp2_with fail
          refine ⟨⟨n + 1, by omega, by go_num, ?_⟩, by simp [intOf]; omega⟩
          have q := HM.out.setCell 2 rfl n (.int .u8 x)
          rw [pz_set 40 ks n x HX.out (by rw [hkl.out]; omega) [] (zb 40) n (by simp)] at q
          exact q
        · obtain rfl : n = 33 := by omega
          have R9 : Hid (Mr w wr 5 [(b1, i.cells, 30), (b2, zE, 35), (b8, pz 40 ks ++ (pz 40 (vs.take 0) ++ []), 35)] [(.slice (some ⟨g, 0, none⟩) 33 cap, u8l ks), (.slice (some ⟨g3, 0, none⟩) 16 c3, u8l vs)]) := Lib.hid (by
            have q := HM.out
            rw [List.take_of_length_le (by rw [hkl.out]; exact Nat.le_refl _)] at q
            rw [List.take_zero, pz_nil, List.append_nil]
            exact q)
          clear HM
          go_wp2_with fail
          go_loopw [10] (fun i_ wr => ∃ n : Nat, n ≤ 16 ∧ i_ = .int .i64 n ∧ Mr w wr 5 [(b1, i.cells, 30), (b2, zE, 35), (b8, pz 40 ks ++ (pz 40 (vs.take n) ++ []), 35)] [(.slice (some ⟨g, 0, none⟩) 33 cap, u8l ks), (.slice (some ⟨g3, 0, none⟩) 16 c3, u8l vs)]) (fun i_ _ => 16 - (intOf i_).toNat)
          case atStart => exact ⟨0, Nat.zero_le _, rfl, R9.out⟩
          case round =>
            clear R9
            obtain ⟨n, hn, rfl, hm⟩ := hrel
            have HM := Lib.hid hm
            clear hm
            by_cases hlt : n < 16
            · obtain ⟨x, hx⟩ : ∃ x, vs[n]? = some x := ⟨_, List.getElem?_eq_getElem (by rw [hvl.out]; exact hlt)⟩
              obtain ⟨q_, hq_, c1⟩ := HM.out.at_ 1 rfl n (v := .int .u8 x) (by simp [u8l, hx])
              simp only [Option.some.injEq, Addr.mk.injEq, and_true] at hq_
              subst hq_
              have hsz : 40 + n < (pz 40 ks ++ (pz 40 (vs.take n) ++ [])).length := by
                rw [List.length_append, pz_len 40 ks (by rw [hkl.out]; omega)]
                simp [pz, u8l_len, zb_len]; omega
              obtain ⟨u, hu⟩ : ∃ u, wr.cell? ⟨b8, 40 + n, none⟩ = some u := ⟨_, HM.out.mem.cell 2 rfl (40 + n) (List.getElem?_eq_getElem hsz)⟩
              have hfz : wr.frozen? ⟨b8, 40 + n, none⟩ = false := HM.out.mem.froz 2 rfl (40 + n)
              have HX := Lib.hid hx
              have j1 : (0 : Int) ≤ n := by omega
              have j2 : (n : Int) < 16 := by omega
              have j3 : (n : Int) < 40 := by omega
              clear hx hsz
              go_wp2_with fail
              refine ⟨⟨n + 1, by omega, by go_num, ?_⟩, by simp [intOf]; omega⟩
              have q := HM.out.setCell 2 rfl (40 + n) (.int .u8 x)
              rw [pz_set 40 vs n x HX.out (by rw [hvl.out]; omega) (pz 40 ks) [] (40 + n) (by rw [pz_len 40 ks (by rw [hkl.out]; omega)])] at q
              exact q
            · obtain rfl : n = 16 := by omega
              have M9 : Hid (Mem w wr [(b1, i.cells, 30), (b2, zE, 35), (b8, i.ent.cells, 35)]) := Lib.hid (by
                have q := HM.out.mem
                rw [List.take_of_length_le (by rw [hvl.out]; exact Nat.le_refl _), HE.out] at q
                exact q)
              clear HM
              have g8 := M9.out.all 2 rfl
              go_wp2_with first
                | (refine wpList_load_midG rfl 35 (.tmp 8) rfl b8 0 rfl i.ent.cells _ g8 Try.underlying35 rfl (by rw [hel.out]; exact info35) ?_)
                | (refine wpList_store_seg rfl 35 (.tmp 2) (.tmp 117) rfl b2 0 rfl i.ent.cells rfl M9.out 1 _ 35 rfl (by rw [hel.out]; exact info35) (by rw [hel.out]; simp [zE, zb]) (by intro v hv; obtain ⟨x, _, rfl⟩ := List.mem_map.1 hv; rfl) rfl ?_; intro wz Mz hsz)
              have hz : wz.rangeAt b2 0 i.ent.cells := by
                have q := Mz.out.all 1 rfl
                rw [splice_all _ _ (by rw [hel.out]; simp [zE, zb])] at q
                exact q
              have hbz := Mz.out.below
              clear Mz
              refine bodyPost_ret (results_cell_mid rfl _ _ b2 _ _ rfl hz Try.underlying35 rfl (by rw [hel.out]; exact info35)) rfl ?_
              exact ⟨by rw [ofOut_t HR.out]; rfl, hbz⟩
end Go.Proofs.Ytmckngkmlhemoaa
