/- The document's Of (layer 14) at an item of kind 2. Printed by genO.py. -/
import Derived.Test.YtmckngkmlhemoaaO0
namespace Go.Proofs.Ytmckngkmlhemoaa
open Go.RowKit
set_option maxRecDepth 100000 in
set_option maxHeartbeats 4000000 in
theorem of10_2 (i : Itm) (ok : i.Ok) (w : World) (h1 : i.kind = 2) (hr : i.right = true) : Calls Try.prog 10 #[.agg i.cells.toArray] w fun e w' => e = .returned (ofOut i) ∧ Below w.heap.size w w' := by
  have M := Lib.hid (((Mem.nil w).push i.cells 30).push zE 35)
  have z35 := zero35
  have HI := Lib.hid (Itm.is ok)
  have HR := Lib.hid hr
  have hlc : Hid ((Try.prog.info? 30).map (·.size) = some i.cells.length) := Lib.hid (by rw [Itm.len ok]; exact info30)
  have hlk : Hid (i.key.length = 32) := Lib.hid ok.key.1
  have hsk : Hid (i.skey.length = 32) := Lib.hid ok.skey.1
  have H1 := Lib.hid h1
  obtain ⟨i5, hi5, hz5, hs5, hb5⟩ := inf5
  clear hr
  go_enter Try.func10, Try.ntmps10
  go_upto_region 1 with fail
  obtain ⟨w1, hw1⟩ : ∃ w1, w1 = (w.alloc (Obj.cells i.cells.toArray 30)).alloc (.cells zE.toArray 35) := ⟨_, rfl⟩
  obtain ⟨b1, hb1⟩ : ∃ b, b = w.heap.size := ⟨_, rfl⟩
  obtain ⟨b2, hb2⟩ : ∃ b, b = (w.alloc (Obj.cells i.cells.toArray 30)).heap.size := ⟨_, rfl⟩
  have hb2' : b2 = w.heap.size + 1 := by rw [hb2]; simp
  have M1 : Hid (Mem w w1 [(b1, i.cells, 30), (b2, zE, 35)]) := Lib.hid (by rw [hw1, hb1, hb2]; exact M.out)
  rw [← hw1, ← hb2', ← hb1]
  clear hw1 hb1 hb2 hb2' M h1
  have g1 := M1.out.all 0 rfl
  go_wp2_with (refine wpList_load_midG rfl 30 (.tmp 1) rfl b1 0 rfl i.cells _ g1 Try.underlying30 rfl hlc.out ?_)
  refine (right21 i ok _).mono ?_
  rintro e w2 ⟨rfl, hb⟩
  rw [HR.out]
  have M2 := Lib.hid (M1.out.go hb)
  clear hb g1 M1
  have c0 : w2.cell? ⟨b1, 0, none⟩ = some (.int .u8 2) := M2.out.cell 0 rfl 0 (by rw [← H1.out]; rfl)
  go_upto_region 4 with fail
  have R3 : Hid (Mr w (w2.alloc (.cells #[.int .u8 2] 5)) 5 [(b1, i.cells, 30), (b2, zE, 35)] [(.slice (some ⟨w2.heap.size, 0, none⟩) 1 1, [.int .u8 2]), (.slice none 0 0, [])]) := Lib.hid ((Mr.ofMem M2.out).make [.int .u8 2] (by simp [maxLen])).nil
  obtain ⟨w3, hw3⟩ : ∃ w3, w3 = w2.alloc (.cells #[.int .u8 2] 5) := ⟨_, rfl⟩
  obtain ⟨g0, hg0⟩ : ∃ g, g = w2.heap.size := ⟨_, rfl⟩
  rw [← hw3, ← hg0] at R3 ⊢
  clear hw3 hg0 M2 c0
  have c0 : w3.cell? ⟨b1, 0, none⟩ = some (.int .u8 2) := R3.out.mem.cell 0 rfl 0 (by rw [← H1.out]; rfl)
  clear c0
  have c0 : w3.cell? ⟨b1, 0, none⟩ = some (.int .u8 2) := R3.out.mem.cell 0 rfl 0 (by rw [← H1.out]; rfl)
  go_upto_region 14 with fail
  have N0 : Hid (Mr w w3.drew 5 [(b1, i.cells, 30), (b2, zE, 35)] [(.slice (some ⟨g0, 0, none⟩) 1 1, u8l [2]), (.slice none 0 0, [])]) := Lib.hid (R3.out.drew 1)
  have hH0 : (fun w' => w'.cell? ⟨b1, 37, none⟩ = some (.int .i64 i.sn) ∧ w'.cell? ⟨b1, 38, none⟩ = some (.int .i64 i.un)) w3.drew := (let q := HI.out.at_ (N0.out.mem.get 0 rfl); ⟨q.2.2.2.1, q.2.2.2.2.1⟩)
  refine wp_region_held_drew (S := fun w' => w'.cell? ⟨b1, 37, none⟩ = some (.int .i64 i.sn) ∧ w'.cell? ⟨b1, 38, none⟩ = some (.int .i64 i.un)) follows hH0 (fun hHeld => ?_)
  obtain ⟨y0, hu0⟩ : ∃ u, u = w3.drew := ⟨_, rfl⟩
  rw [← hu0] at N0 hHeld ⊢
  clear hu0 hH0 R3 c0
  refine wpAnyH_take (i := 0) (v := ?_) (by simp only [List.getElem?_toArray, List.getElem?_cons_zero]; rfl) (by kernel_rfl) (by kernel_rfl) (by kernel_rfl) (by intro _ _ _ h; exact h) (Or.inl ⟨by rfl, ?_⟩) hHeld ?_
  rotate_left
  · (intro w hSw; (try dsimp only at hSw); go_simp; try with_reducible rfl)
  try simp only [Act.put, List.setIfInBounds_toArray, List.set_cons_zero, List.set_cons_succ]
  refine wpAnyH_take (i := 1) (v := ?_) (by simp only [List.getElem?_toArray, List.getElem?_cons_zero, List.getElem?_cons_succ]; rfl) (by kernel_rfl) (by kernel_rfl) (by kernel_rfl) (by intro _ _ _ h; exact h) (Or.inl ⟨by rfl, ?_⟩) hHeld ?_
  rotate_left
  · (intro w hSw; (try dsimp only at hSw); go_simp; try with_reducible rfl)
  try simp only [Act.put, List.setIfInBounds_toArray, List.set_cons_zero, List.set_cons_succ]
  refine wpAnyH_take (i := 2) (v := ?_) (by simp only [List.getElem?_toArray, List.getElem?_cons_zero, List.getElem?_cons_succ]; rfl) (by kernel_rfl) (by kernel_rfl) (by kernel_rfl) (by intro _ _ _ h; exact h) (Or.inl ⟨by rfl, ?_⟩) hHeld ?_
  rotate_left
  · (intro w hSw; (try dsimp only at hSw); go_simp; try with_reducible rfl)
  try simp only [Act.put, List.setIfInBounds_toArray, List.set_cons_zero, List.set_cons_succ]
  refine wpAnyH_take (i := 5) (v := ?_) (by simp only [List.getElem?_toArray, List.getElem?_cons_zero, List.getElem?_cons_succ]; rfl) (by kernel_rfl) (by kernel_rfl) (by kernel_rfl) (by intro _ _ _ h; exact h) (Or.inl ⟨by rfl, ?_⟩) hHeld ?_
  rotate_left
  · (intro w hSw; (try dsimp only at hSw); go_simp; try with_reducible rfl)
  try simp only [Act.put, List.setIfInBounds_toArray, List.set_cons_zero, List.set_cons_succ]
  refine wpAnyH_take (i := 6) (v := ?_) (by simp only [List.getElem?_toArray, List.getElem?_cons_zero, List.getElem?_cons_succ]; rfl) (by kernel_rfl) (by kernel_rfl) (by kernel_rfl) (by intro _ _ _ h; exact h) (Or.inl ⟨by rfl, ?_⟩) hHeld ?_
  rotate_left
  · (intro w hSw; (try dsimp only at hSw); go_simp; try with_reducible rfl)
  try simp only [Act.put, List.setIfInBounds_toArray, List.set_cons_zero, List.set_cons_succ]
  refine wpAnyH_ready (rs := [3]) (by kernel_rfl) (by simp) ?_
  refine AllReadyH.cons (by simp only [List.getElem?_toArray, List.getElem?_cons_zero, List.getElem?_cons_succ]; rfl) (fun K hK => ?_) AllReadyH.nil
  go_simp
  refine (four22 i.sn _).mono ?_
  rintro e x1 ⟨rfl, hx1⟩
  have X1 : Hid (Mr w x1 5 [(b1, i.cells, 30), (b2, zE, 35)] [(.slice (some ⟨g0, 0, none⟩) 1 1, u8l ([2])), (.slice none 0 0, [])]) := Lib.hid (by
    rw [hx1]
    exact N0.out.go ((Below.refl _ _).alloc (Nat.le_refl _) _))
  have hr1 : x1.rangeAt y0.heap.size 0 (u8l (fourL i.sn)) := by
    rw [hx1]
    exact range_new y0 (u8l (fourL i.sn)) 5
  refine hK.out _ _ (let q := HI.out.at_ (X1.out.mem.get 0 rfl); ⟨q.2.2.2.1, q.2.2.2.2.1⟩) (fun hHeld => ?_)
  clear hK K hx1 N0
  try simp only [Act.put, List.setIfInBounds_toArray, List.set_cons_zero, List.set_cons_succ]
  refine wpAnyH_ready (rs := [4]) (by kernel_rfl) (by simp) ?_
  refine AllReadyH.cons (by simp only [List.getElem?_toArray, List.getElem?_cons_zero, List.getElem?_cons_succ]; rfl) (fun K hK => ?_) AllReadyH.nil
  rw [if_pos (by rfl)]
  refine wp_append_row (.tmp 59) (.tmp 62) 54 rfl i5 (.int .u8 0) Try.underlying54 hi5 hz5 hs5 hb5 rfl X1.out 0 _ _ rfl rfl y0.heap.size 0 4 4 (u8l (fourL i.sn)) rfl rfl hr1 u8l_one (by omega) (by simp [u8l_len]) ?_
  intro g1 c1 y1 hy1
  have Y1 : Hid (Mr w y1 5 [(b1, i.cells, 30), (b2, zE, 35)] [(.slice (some ⟨g1, 0, none⟩) 5 c1, u8l (2 :: fours [i.sn])), (.slice none 0 0, [])]) := Lib.hid (by
    have q := hy1.out
    rw [← u8l_app] at q
    rw [show 2 :: fours [i.sn] = ([2]) ++ fourL i.sn from by simp [fours]]
    exact q)
  rw [show (u8l ([2])).length + 4 = 5 from rfl]
  refine hK.out _ _ (let q := HI.out.at_ (Y1.out.mem.get 0 rfl); ⟨q.2.2.2.1, q.2.2.2.2.1⟩) (fun hHeld => ?_)
  clear hK K hy1 X1 hr1
  try simp only [Act.put, List.setIfInBounds_toArray, List.set_cons_zero, List.set_cons_succ]
  refine wpAnyH_ready (rs := [7]) (by kernel_rfl) (by simp) ?_
  refine AllReadyH.cons (by simp only [List.getElem?_toArray, List.getElem?_cons_zero, List.getElem?_cons_succ]; rfl) (fun K hK => ?_) AllReadyH.nil
  go_simp
  refine (four22 i.un _).mono ?_
  rintro e x2 ⟨rfl, hx2⟩
  have X2 : Hid (Mr w x2 5 [(b1, i.cells, 30), (b2, zE, 35)] [(.slice (some ⟨g1, 0, none⟩) 5 c1, u8l (2 :: fours [i.sn])), (.slice none 0 0, [])]) := Lib.hid (by
    rw [hx2]
    exact Y1.out.go ((Below.refl _ _).alloc (Nat.le_refl _) _))
  have hr2 : x2.rangeAt y1.heap.size 0 (u8l (fourL i.un)) := by
    rw [hx2]
    exact range_new y1 (u8l (fourL i.un)) 5
  refine hK.out _ _ (let q := HI.out.at_ (X2.out.mem.get 0 rfl); ⟨q.2.2.2.1, q.2.2.2.2.1⟩) (fun hHeld => ?_)
  clear hK K hx2 Y1
  try simp only [Act.put, List.setIfInBounds_toArray, List.set_cons_zero, List.set_cons_succ]
  refine wpAnyH_ready (rs := [8]) (by kernel_rfl) (by simp) ?_
  refine AllReadyH.cons (by simp only [List.getElem?_toArray, List.getElem?_cons_zero, List.getElem?_cons_succ]; rfl) (fun K hK => ?_) AllReadyH.nil
  rw [if_pos (by rfl)]
  refine wp_append_row (.tmp 63) (.tmp 66) 54 rfl i5 (.int .u8 0) Try.underlying54 hi5 hz5 hs5 hb5 rfl X2.out 0 _ _ rfl rfl y1.heap.size 0 4 4 (u8l (fourL i.un)) rfl rfl hr2 u8l_one (by omega) (by simp [u8l_len, fours_len]) ?_
  intro g2 c2 y2 hy2
  have Y2 : Hid (Mr w y2 5 [(b1, i.cells, 30), (b2, zE, 35)] [(.slice (some ⟨g2, 0, none⟩) 9 c2, u8l (2 :: fours [i.sn, i.un])), (.slice none 0 0, [])]) := Lib.hid (by
    have q := hy2.out
    rw [← u8l_app] at q
    rw [show 2 :: fours [i.sn, i.un] = (2 :: fours [i.sn]) ++ fourL i.un from by simp [fours]]
    exact q)
  rw [show (u8l (2 :: fours [i.sn])).length + 4 = 9 from rfl]
  refine hK.out _ _ (let q := HI.out.at_ (Y2.out.mem.get 0 rfl); ⟨q.2.2.2.1, q.2.2.2.2.1⟩) (fun hHeld => ?_)
  clear hK K hy2 X2 hr2
  try simp only [Act.put, List.setIfInBounds_toArray, List.set_cons_zero, List.set_cons_succ]
  refine wpAnyH_take (i := 9) (v := ?_) (by simp only [List.getElem?_toArray, List.getElem?_cons_zero, List.getElem?_cons_succ]; rfl) (by kernel_rfl) (by kernel_rfl) (by kernel_rfl) (by intro _ _ _ h; exact h) (Or.inl ⟨by rfl, ?_⟩) hHeld ?_
  rotate_left
  · (intro w hSw; (try dsimp only at hSw); go_simp; try with_reducible rfl)
  try simp only [Act.put, List.setIfInBounds_toArray, List.set_cons_zero, List.set_cons_succ]
  refine wpAnyH_done (by kernel_rfl) ?_ _
  clear hHeld
  obtain ⟨kr, hkr⟩ : ∃ r : List Value, r = u8l (2 :: fours [i.sn, i.un]) := ⟨_, rfl⟩
  rw [← hkr] at Y2
  have HKR := Lib.hid hkr
  clear hkr
  go_wp2_with fail
  go_loopw [5, 7] (fun v_ i_ wr => ∃ k : Nat, k ≤ 32 ∧ i_ = .int .i64 k ∧ Mr w wr 5 [(b1, i.cells, 30), (b2, zE, 35)] [(.slice (some ⟨g2, 0, none⟩) 9 c2, kr), (v_, u8l (i.skey.take k))]) (fun _ i_ _ => 32 - (intOf i_).toNat)
  case atStart => exact ⟨0, Nat.zero_le _, rfl, Y2.out⟩
  case round =>
    clear Y2
    obtain ⟨k, hk, rfl, hm⟩ := hrel
    have HM := Lib.hid hm
    clear hm
    by_cases hlt : k < 32
    · obtain ⟨x, hx⟩ : ∃ x, i.skey[k]? = some x := ⟨_, List.getElem?_eq_getElem (by rw [hsk.out]; exact hlt)⟩
      have g1 := (HI.out.at_ (HM.out.mem.get 0 rfl)).2.2.2.2.2
      have c1 : wr.cell? ⟨b1, 39 + k, none⟩ = some (.int .u8 x) := g1 k _ (by
        rw [Itm.sl, List.getElem?_append_left (by rw [u8l_len, hsk.out]; exact hlt)]
        simp [u8l, hx])
      have HX := Lib.hid hx
      clear g1 hx
      have j1 : (0 : Int) ≤ k := by omega
      have j2 : (k : Int) < 32 := by omega
      have hlen : Hid ((u8l (i.skey.take k)).length = k) := Lib.hid (by rw [u8l_len]; simp [hsk.out]; omega)
      have HN : Hid (Mr w (wr.alloc (.cells #[.int .u8 x] 5)) 5 [(b1, i.cells, 30), (b2, zE, 35)] [(.slice (some ⟨g2, 0, none⟩) 9 c2, kr), (u5, u8l (i.skey.take k))]) := Lib.hid (HM.out.go ((Below.refl _ wr).alloc (Nat.le_refl _) _))
      have hr1 : (wr.alloc (.cells #[.int .u8 x] 5)).rangeAt wr.heap.size 0 [.int .u8 x] := range_new wr [.int .u8 x] 5
      go_wp2_with (at_builtin; refine wpList_append_row rfl (.tmp 72) (.tmp 78) 54 rfl i5 (.int .u8 0) Try.underlying54 hi5 hz5 hs5 hb5 rfl HN.out 1 _ _ rfl rfl wr.heap.size 0 1 1 [.int .u8 x] rfl rfl hr1 (by simp [Value.oneCell']) (by omega) (by rw [hlen.out]; omega) ?_; intro g3 cap3 w4 hw4)
      refine ⟨⟨k + 1, by omega, by go_num, ?_⟩, by simp [intOf]; omega⟩
      have q := hw4.out
      rw [take_snoc HX.out, u8l_app]
      exact q
    · obtain rfl : k = 32 := by omega
      rw [List.take_of_length_le (by rw [hsk.out]; exact Nat.le_refl _)] at HM
      have g1 := (HI.out.at_ (HM.out.mem.get 0 rfl)).2.2.2.2.2
      have d0 : wr.cell? ⟨b1, 71, none⟩ = some (.int .i64 i.so) := g1 32 _ HI.out.off
      have d1 : wr.cell? ⟨b1, 72, none⟩ = some (.int .i64 i.sm) := g1 33 _ HI.out.mask
      clear g1
      have hlen : Hid ((u8l i.skey).length = 32) := Lib.hid (by rw [u8l_len, hsk.out])
      have HN : Hid (Mr w (wr.alloc (.cells #[.int .u8 (i.so % 256), .int .u8 (i.sm % 256)] 5)) 5 [(b1, i.cells, 30), (b2, zE, 35)] [(.slice (some ⟨g2, 0, none⟩) 9 c2, kr), (u5, u8l i.skey)]) := Lib.hid (HM.out.go ((Below.refl _ wr).alloc (Nat.le_refl _) _))
      have hr1 : (wr.alloc (.cells #[.int .u8 (i.so % 256), .int .u8 (i.sm % 256)] 5)).rangeAt wr.heap.size 0 [.int .u8 (i.so % 256), .int .u8 (i.sm % 256)] := range_new wr [.int .u8 (i.so % 256), .int .u8 (i.sm % 256)] 5
      go_upto_region 20 with (at_builtin; refine wpList_append_row rfl (.tmp 80) (.tmp 89) 54 rfl i5 (.int .u8 0) Try.underlying54 hi5 hz5 hs5 hb5 rfl HN.out 1 _ _ rfl rfl wr.heap.size 0 2 2 [.int .u8 (i.so % 256), .int .u8 (i.sm % 256)] rfl rfl hr1 (by simp [Value.oneCell']) (by omega) (by rw [hlen.out]; omega) ?_; intro g3 cap3 w4 hw4)
      rw [hlen.out]
      have RT : Hid (Mr w w4 5 [(b1, i.cells, 30), (b2, zE, 35)] [(.slice (some ⟨g2, 0, none⟩) 9 c2, u8l (2 :: fours [i.sn, i.un])), (.slice (some ⟨g3, 0, none⟩) 34 cap3, u8l (i.skey ++ [i.so % 256, i.sm % 256]))]) := Lib.hid (by
        have q := hw4.out
        rw [hlen.out, HKR.out] at q
        rw [u8l_app]
        exact q)
      clear hw4 HM HN hr1 d0 d1
      obtain ⟨wt, hwt⟩ : ∃ w', w' = w4 := ⟨_, rfl⟩
      rw [← hwt] at RT ⊢
      clear hwt
      have RT2 : Hid (Mr w wt 5 [(b1, i.cells, 30), (b2, zE, 35)] [(.slice (some ⟨g2, 0, none⟩) 9 c2, u8l (2 :: fours [i.sn, i.un])), (.slice (some ⟨g3, 0, none⟩) 34 cap3, u8l (i.skey ++ [i.so % 256, i.sm % 256]))]) := Lib.hid RT.out
      clear RT
      have hkl : Hid ((2 :: fours [i.sn, i.un]).length = 9) := Lib.hid (by simp [fours_len])
      have hvl : Hid ((i.skey ++ [i.so % 256, i.sm % 256]).length = 34) := Lib.hid (by simp [hsk.out])
      have HE : Hid (pz 40 (2 :: fours [i.sn, i.un]) ++ (pz 40 (i.skey ++ [i.so % 256, i.sm % 256]) ++ []) = i.ent.cells) := Lib.hid (ent2_pz H1.out hsk.out)
      obtain ⟨ks, hks⟩ : ∃ ks, ks = 2 :: fours [i.sn, i.un] := ⟨_, rfl⟩
      obtain ⟨vs, hvs⟩ : ∃ vs, vs = i.skey ++ [i.so % 256, i.sm % 256] := ⟨_, rfl⟩
      rw [← hks] at hkl
      rw [← hvs] at hvl
      rw [← hks, ← hvs] at RT2 HE
      clear hks hvs
      have hel : Hid (i.ent.cells.length = 80) := Lib.hid (ent_len ok)
      go_upto_region 21 with fail
      obtain ⟨b8, hb8⟩ : ∃ b, b = wt.heap.size := ⟨_, rfl⟩
      have R8 : Hid (Mr w (wt.alloc (.cells zE.toArray 35)) 5 [(b1, i.cells, 30), (b2, zE, 35), (b8, [] ++ (pz 40 (ks.take 0) ++ zb 40), 35)] [(.slice (some ⟨g2, 0, none⟩) 9 c2, u8l ks), (.slice (some ⟨g3, 0, none⟩) 34 cap3, u8l vs)]) := Lib.hid (by
        have q := RT2.out.push zE 35
        rw [show zE = [] ++ (pz 40 (ks.take 0) ++ zb 40) from by rw [List.take_zero, pz_nil, ← zb_add]; rfl] at q ⊢
        rw [hb8]; exact q)
      obtain ⟨w8, hw8⟩ : ∃ w', w' = wt.alloc (.cells zE.toArray 35) := ⟨_, rfl⟩
      rw [← hw8] at R8 ⊢
      rw [← hb8]
      clear hw8 hb8 RT2
      go_wp2_with fail
      go_loopw [9] (fun i_ wr => ∃ n : Nat, n ≤ 9 ∧ i_ = .int .i64 n ∧ Mr w wr 5 [(b1, i.cells, 30), (b2, zE, 35), (b8, [] ++ (pz 40 (ks.take n) ++ zb 40), 35)] [(.slice (some ⟨g2, 0, none⟩) 9 c2, u8l ks), (.slice (some ⟨g3, 0, none⟩) 34 cap3, u8l vs)]) (fun i_ _ => 9 - (intOf i_).toNat)
      case atStart => exact ⟨0, Nat.zero_le _, rfl, R8.out⟩
      case round =>
        clear R8
        obtain ⟨n, hn, rfl, hm⟩ := hrel
        have HM := Lib.hid hm
        clear hm
        by_cases hlt : n < 9
        · obtain ⟨x, hx⟩ : ∃ x, ks[n]? = some x := ⟨_, List.getElem?_eq_getElem (by rw [hkl.out]; exact hlt)⟩
          obtain ⟨q_, hq_, c1⟩ := HM.out.at_ 0 rfl n (v := .int .u8 x) (by simp [u8l, hx])
          simp only [Option.some.injEq, Addr.mk.injEq, and_true] at hq_
          subst hq_
          have hsz : n < ([] ++ (pz 40 (ks.take n) ++ zb 40)).length := by simp [pz, u8l_len, zb_len]; omega
          obtain ⟨u, hu⟩ : ∃ u, wr.cell? ⟨b8, n, none⟩ = some u := ⟨_, HM.out.mem.cell 2 rfl n (List.getElem?_eq_getElem hsz)⟩
          have hfz : wr.frozen? ⟨b8, n, none⟩ = false := HM.out.mem.froz 2 rfl n
          have HX := Lib.hid hx
          have j1 : (0 : Int) ≤ n := by omega
          have j2 : (n : Int) < 9 := by omega
          have j3 : (n : Int) < 40 := by omega
          clear hx hsz
          go_wp2_with fail
          refine ⟨⟨n + 1, by omega, by go_num, ?_⟩, by simp [intOf]; omega⟩
          have q := HM.out.setCell 2 rfl n (.int .u8 x)
          rw [pz_set 40 ks n x HX.out (by rw [hkl.out]; omega) [] (zb 40) n (by simp)] at q
          exact q
        · obtain rfl : n = 9 := by omega
          have R9 : Hid (Mr w wr 5 [(b1, i.cells, 30), (b2, zE, 35), (b8, pz 40 ks ++ (pz 40 (vs.take 0) ++ []), 35)] [(.slice (some ⟨g2, 0, none⟩) 9 c2, u8l ks), (.slice (some ⟨g3, 0, none⟩) 34 cap3, u8l vs)]) := Lib.hid (by
            have q := HM.out
            rw [List.take_of_length_le (by rw [hkl.out]; exact Nat.le_refl _)] at q
            rw [List.take_zero, pz_nil, List.append_nil]
            exact q)
          clear HM
          go_wp2_with fail
          go_loopw [10] (fun i_ wr => ∃ n : Nat, n ≤ 34 ∧ i_ = .int .i64 n ∧ Mr w wr 5 [(b1, i.cells, 30), (b2, zE, 35), (b8, pz 40 ks ++ (pz 40 (vs.take n) ++ []), 35)] [(.slice (some ⟨g2, 0, none⟩) 9 c2, u8l ks), (.slice (some ⟨g3, 0, none⟩) 34 cap3, u8l vs)]) (fun i_ _ => 34 - (intOf i_).toNat)
          case atStart => exact ⟨0, Nat.zero_le _, rfl, R9.out⟩
          case round =>
            clear R9
            obtain ⟨n, hn, rfl, hm⟩ := hrel
            have HM := Lib.hid hm
            clear hm
            by_cases hlt : n < 34
            · obtain ⟨x, hx⟩ : ∃ x, vs[n]? = some x := ⟨_, List.getElem?_eq_getElem (by rw [hvl.out]; exact hlt)⟩
              obtain ⟨q_, hq_, c1⟩ := HM.out.at_ 1 rfl n (v := .int .u8 x) (by simp [u8l, hx])
              simp only [Option.some.injEq, Addr.mk.injEq, and_true] at hq_
              subst hq_
              have hsz : 40 + n < (pz 40 ks ++ (pz 40 (vs.take n) ++ [])).length := by
                rw [List.length_append, pz_len 40 ks (by rw [hkl.out]; omega)]
                simp [pz, u8l_len, zb_len]; omega
              obtain ⟨u, hu⟩ : ∃ u, wr.cell? ⟨b8, 40 + n, none⟩ = some u := ⟨_, HM.out.mem.cell 2 rfl (40 + n) (List.getElem?_eq_getElem hsz)⟩
              have hfz : wr.frozen? ⟨b8, 40 + n, none⟩ = false := HM.out.mem.froz 2 rfl (40 + n)
              have HX := Lib.hid hx
              have j1 : (0 : Int) ≤ n := by omega
              have j2 : (n : Int) < 34 := by omega
              have j3 : (n : Int) < 40 := by omega
              clear hx hsz
              go_wp2_with fail
              refine ⟨⟨n + 1, by omega, by go_num, ?_⟩, by simp [intOf]; omega⟩
              have q := HM.out.setCell 2 rfl (40 + n) (.int .u8 x)
              rw [pz_set 40 vs n x HX.out (by rw [hvl.out]; omega) (pz 40 ks) [] (40 + n) (by rw [pz_len 40 ks (by rw [hkl.out]; omega)])] at q
              exact q
            · obtain rfl : n = 34 := by omega
              have M9 : Hid (Mem w wr [(b1, i.cells, 30), (b2, zE, 35), (b8, i.ent.cells, 35)]) := Lib.hid (by
                have q := HM.out.mem
                rw [List.take_of_length_le (by rw [hvl.out]; exact Nat.le_refl _), HE.out] at q
                exact q)
              clear HM
              have g8 := M9.out.all 2 rfl
              go_wp2_with first
                | (refine wpList_load_midG rfl 35 (.tmp 8) rfl b8 0 rfl i.ent.cells _ g8 Try.underlying35 rfl (by rw [hel.out]; exact info35) ?_)
                | (refine wpList_store_seg rfl 35 (.tmp 2) (.tmp 117) rfl b2 0 rfl i.ent.cells rfl M9.out 1 _ 35 rfl (by rw [hel.out]; exact info35) (by rw [hel.out]; simp [zE, zb]) (by intro v hv; obtain ⟨x, _, rfl⟩ := List.mem_map.1 hv; rfl) rfl ?_; intro wz Mz hsz)
              have hz : wz.rangeAt b2 0 i.ent.cells := by
                have q := Mz.out.all 1 rfl
                rw [splice_all _ _ (by rw [hel.out]; simp [zE, zb])] at q
                exact q
              have hbz := Mz.out.below
              clear Mz
              refine bodyPost_ret (results_cell_mid rfl _ _ b2 _ _ rfl hz Try.underlying35 rfl (by rw [hel.out]; exact info35)) rfl ?_
              exact ⟨by rw [ofOut_t HR.out]; rfl, hbz⟩
end Go.Proofs.Ytmckngkmlhemoaa
