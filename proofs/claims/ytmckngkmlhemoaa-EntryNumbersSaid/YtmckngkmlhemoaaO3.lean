/- The document's Of (layer 14) at an item of kind 3. Printed by genO.py. -/
import Derived.Test.YtmckngkmlhemoaaO0
namespace Go.Proofs.Ytmckngkmlhemoaa
open Go.RowKit
set_option maxRecDepth 100000 in
set_option maxHeartbeats 4000000 in
theorem of10_3 (i : Itm) (ok : i.Ok) (w : World) (h1 : i.kind = 3) (hr : i.right = true) : Calls Try.prog 10 #[.agg i.cells.toArray] w fun e w' => e = .returned (ofOut i) ∧ Below w.heap.size w w' := by
  have M := Lib.hid (((Mem.nil w).push i.cells 30).push zE 35)
  have z35 := zero35
  have HI := Lib.hid (Itm.is ok)
  have HR := Lib.hid hr
  have hlc : Hid ((Try.prog.info? 30).map (·.size) = some i.cells.length) := Lib.hid (by rw [Itm.len ok]; exact info30)
  have hlk : Hid (i.key.length = 32) := Lib.hid ok.key.1
  have hsk : Hid (i.skey.length = 32) := Lib.hid ok.skey.1
  have H1 := Lib.hid h1
  obtain ⟨i5, hi5, hz5, hs5, hb5⟩ := inf5
  clear hr
  go_enter Try.func10, Try.ntmps10
  go_upto_region 1 with fail
  obtain ⟨w1, hw1⟩ : ∃ w1, w1 = (w.alloc (Obj.cells i.cells.toArray 30)).alloc (.cells zE.toArray 35) := ⟨_, rfl⟩
  obtain ⟨b1, hb1⟩ : ∃ b, b = w.heap.size := ⟨_, rfl⟩
  obtain ⟨b2, hb2⟩ : ∃ b, b = (w.alloc (Obj.cells i.cells.toArray 30)).heap.size := ⟨_, rfl⟩
  have hb2' : b2 = w.heap.size + 1 := by rw [hb2]; simp
  have M1 : Hid (Mem w w1 [(b1, i.cells, 30), (b2, zE, 35)]) := Lib.hid (by rw [hw1, hb1, hb2]; exact M.out)
  rw [← hw1, ← hb2', ← hb1]
  clear hw1 hb1 hb2 hb2' M h1
  have g1 := M1.out.all 0 rfl
  go_wp2_with (refine wpList_load_midG rfl 30 (.tmp 1) rfl b1 0 rfl i.cells _ g1 Try.underlying30 rfl hlc.out ?_)
  refine (right21 i ok _).mono ?_
  rintro e w2 ⟨rfl, hb⟩
  rw [HR.out]
  have M2 := Lib.hid (M1.out.go hb)
  clear hb g1 M1
  have c0 : w2.cell? ⟨b1, 0, none⟩ = some (.int .u8 3) := M2.out.cell 0 rfl 0 (by rw [← H1.out]; rfl)
  go_upto_region 4 with fail
  have R3 : Hid (Mr w (w2.alloc (.cells #[.int .u8 3] 5)) 5 [(b1, i.cells, 30), (b2, zE, 35)] [(.slice (some ⟨w2.heap.size, 0, none⟩) 1 1, [.int .u8 3]), (.slice none 0 0, [])]) := Lib.hid ((Mr.ofMem M2.out).make [.int .u8 3] (by simp [maxLen])).nil
  obtain ⟨w3, hw3⟩ : ∃ w3, w3 = w2.alloc (.cells #[.int .u8 3] 5) := ⟨_, rfl⟩
  obtain ⟨g0, hg0⟩ : ∃ g, g = w2.heap.size := ⟨_, rfl⟩
  rw [← hw3, ← hg0] at R3 ⊢
  clear hw3 hg0 M2 c0
  have c0 : w3.cell? ⟨b1, 0, none⟩ = some (.int .u8 3) := R3.out.mem.cell 0 rfl 0 (by rw [← H1.out]; rfl)
  have d0 := (HI.out.at_ (R3.out.mem.get 0 rfl)).2.2.2.1
  go_wp2_with fail
  refine (four22 i.sn _).mono ?_
  rintro e x1 ⟨rfl, hx1⟩
  have X1 : Hid (Mr w x1 5 [(b1, i.cells, 30), (b2, zE, 35)] [(.slice (some ⟨g0, 0, none⟩) 1 1, u8l [3]), (.slice none 0 0, [])]) := Lib.hid (by
    rw [hx1]
    exact R3.out.go ((Below.refl _ _).alloc (Nat.le_refl _) _))
  have hr1 : x1.rangeAt w3.heap.size 0 (u8l (fourL i.sn)) := by
    rw [hx1]
    exact range_new w3 (u8l (fourL i.sn)) 5
  clear hx1
  go_upto_region 20 with (at_builtin; refine wpList_append_row rfl (.tmp 20) (.tmp 23) 54 rfl i5 (.int .u8 0) Try.underlying54 hi5 hz5 hs5 hb5 rfl X1.out 0 _ _ rfl rfl w3.heap.size 0 4 4 (u8l (fourL i.sn)) rfl rfl hr1 u8l_one (by omega) (by simp [u8l_len]) ?_; intro g1 c1 w4 hw4)
  have RT : Hid (Mr w w4 5 [(b1, i.cells, 30), (b2, zE, 35)] [(.slice (some ⟨g1, 0, none⟩) 5 c1, u8l (3 :: fours [i.sn])), (.slice none 0 0, u8l [])]) := Lib.hid (by
    have q := hw4.out
    rw [← u8l_app] at q
    rw [show 3 :: fours [i.sn] = [3] ++ fourL i.sn from by simp [fours]]
    exact q)
  rw [show (u8l [3]).length + 4 = 5 from rfl]
  clear hw4 X1 hr1 R3 c0 d0
  obtain ⟨wt, hwt⟩ : ∃ w', w' = w4 := ⟨_, rfl⟩
  rw [← hwt] at RT ⊢
  clear hwt
  have RT2 : Hid (Mr w wt 5 [(b1, i.cells, 30), (b2, zE, 35)] [(.slice (some ⟨g1, 0, none⟩) 5 c1, u8l (3 :: fours [i.sn])), (.slice none 0 0, u8l (([] : List Int)))]) := Lib.hid RT.out
  clear RT
  have hkl : Hid ((3 :: fours [i.sn]).length = 5) := Lib.hid (by simp [fours_len])
  have hvl : Hid ((([] : List Int)).length = 0) := Lib.hid rfl
  have HE : Hid (pz 40 (3 :: fours [i.sn]) ++ (pz 40 (([] : List Int)) ++ []) = i.ent.cells) := Lib.hid (ent3_pz H1.out)
  obtain ⟨ks, hks⟩ : ∃ ks, ks = 3 :: fours [i.sn] := ⟨_, rfl⟩
  obtain ⟨vs, hvs⟩ : ∃ vs, vs = ([] : List Int) := ⟨_, rfl⟩
  rw [← hks] at hkl
  rw [← hvs] at hvl
  rw [← hks, ← hvs] at RT2 HE
  clear hks hvs
  have hel : Hid (i.ent.cells.length = 80) := Lib.hid (ent_len ok)
  go_upto_region 21 with fail
  obtain ⟨b8, hb8⟩ : ∃ b, b = wt.heap.size := ⟨_, rfl⟩
  have R8 : Hid (Mr w (wt.alloc (.cells zE.toArray 35)) 5 [(b1, i.cells, 30), (b2, zE, 35), (b8, [] ++ (pz 40 (ks.take 0) ++ zb 40), 35)] [(.slice (some ⟨g1, 0, none⟩) 5 c1, u8l ks), (.slice none 0 0, u8l vs)]) := Lib.hid (by
    have q := RT2.out.push zE 35
    rw [show zE = [] ++ (pz 40 (ks.take 0) ++ zb 40) from by rw [List.take_zero, pz_nil, ← zb_add]; rfl] at q ⊢
    rw [hb8]; exact q)
  obtain ⟨w8, hw8⟩ : ∃ w', w' = wt.alloc (.cells zE.toArray 35) := ⟨_, rfl⟩
  rw [← hw8] at R8 ⊢
  rw [← hb8]
  clear hw8 hb8 RT2
  go_wp2_with fail
  go_loopw [9] (fun i_ wr => ∃ n : Nat, n ≤ 5 ∧ i_ = .int .i64 n ∧ Mr w wr 5 [(b1, i.cells, 30), (b2, zE, 35), (b8, [] ++ (pz 40 (ks.take n) ++ zb 40), 35)] [(.slice (some ⟨g1, 0, none⟩) 5 c1, u8l ks), (.slice none 0 0, u8l vs)]) (fun i_ _ => 5 - (intOf i_).toNat)
  case atStart => exact ⟨0, Nat.zero_le _, rfl, R8.out⟩
  case round =>
    clear R8
    obtain ⟨n, hn, rfl, hm⟩ := hrel
    have HM := Lib.hid hm
    clear hm
    by_cases hlt : n < 5
    · obtain ⟨x, hx⟩ : ∃ x, ks[n]? = some x := ⟨_, List.getElem?_eq_getElem (by rw [hkl.out]; exact hlt)⟩
      obtain ⟨q_, hq_, c1⟩ := HM.out.at_ 0 rfl n (v := .int .u8 x) (by simp [u8l, hx])
      simp only [Option.some.injEq, Addr.mk.injEq, and_true] at hq_
      subst hq_
      have hsz : n < ([] ++ (pz 40 (ks.take n) ++ zb 40)).length := by simp [pz, u8l_len, zb_len]; omega
      obtain ⟨u, hu⟩ : ∃ u, wr.cell? ⟨b8, n, none⟩ = some u := ⟨_, HM.out.mem.cell 2 rfl n (List.getElem?_eq_getElem hsz)⟩
      have hfz : wr.frozen? ⟨b8, n, none⟩ = false := HM.out.mem.froz 2 rfl n
      have HX := Lib.hid hx
      have j1 : (0 : Int) ≤ n := by omega
      have j2 : (n : Int) < 5 := by omega
      have j3 : (n : Int) < 40 := by omega
      clear hx hsz
      go_wp2_with fail
      refine ⟨⟨n + 1, by omega, by go_num, ?_⟩, by simp [intOf]; omega⟩
      have q := HM.out.setCell 2 rfl n (.int .u8 x)
      rw [pz_set 40 ks n x HX.out (by rw [hkl.out]; omega) [] (zb 40) n (by simp)] at q
      exact q
    · obtain rfl : n = 5 := by omega
      have R9 : Hid (Mr w wr 5 [(b1, i.cells, 30), (b2, zE, 35), (b8, pz 40 ks ++ (pz 40 (vs.take 0) ++ []), 35)] [(.slice (some ⟨g1, 0, none⟩) 5 c1, u8l ks), (.slice none 0 0, u8l vs)]) := Lib.hid (by
        have q := HM.out
        rw [List.take_of_length_le (by rw [hkl.out]; exact Nat.le_refl _)] at q
        rw [List.take_zero, pz_nil, List.append_nil]
        exact q)
      clear HM
      go_wp2_with fail
      go_loopw [10] (fun i_ wr => ∃ n : Nat, n ≤ 0 ∧ i_ = .int .i64 n ∧ Mr w wr 5 [(b1, i.cells, 30), (b2, zE, 35), (b8, pz 40 ks ++ (pz 40 (vs.take n) ++ []), 35)] [(.slice (some ⟨g1, 0, none⟩) 5 c1, u8l ks), (.slice none 0 0, u8l vs)]) (fun i_ _ => 0 - (intOf i_).toNat)
      case atStart => exact ⟨0, Nat.zero_le _, rfl, R9.out⟩
      case round =>
        clear R9
        obtain ⟨n, hn, rfl, hm⟩ := hrel
        have HM := Lib.hid hm
        clear hm
        by_cases hlt : n < 0
        · omega
        · obtain rfl : n = 0 := by omega
          have M9 : Hid (Mem w wr [(b1, i.cells, 30), (b2, zE, 35), (b8, i.ent.cells, 35)]) := Lib.hid (by
            have q := HM.out.mem
            rw [List.take_of_length_le (by rw [hvl.out]; exact Nat.le_refl _), HE.out] at q
            exact q)
          clear HM
          have g8 := M9.out.all 2 rfl
          go_wp2_with first
            | (refine wpList_load_midG rfl 35 (.tmp 8) rfl b8 0 rfl i.ent.cells _ g8 Try.underlying35 rfl (by rw [hel.out]; exact info35) ?_)
            | (refine wpList_store_seg rfl 35 (.tmp 2) (.tmp 117) rfl b2 0 rfl i.ent.cells rfl M9.out 1 _ 35 rfl (by rw [hel.out]; exact info35) (by rw [hel.out]; simp [zE, zb]) (by intro v hv; obtain ⟨x, _, rfl⟩ := List.mem_map.1 hv; rfl) rfl ?_; intro wz Mz hsz)
          have hz : wz.rangeAt b2 0 i.ent.cells := by
            have q := Mz.out.all 1 rfl
            rw [splice_all _ _ (by rw [hel.out]; simp [zE, zb])] at q
            exact q
          have hbz := Mz.out.below
          clear Mz
          refine bodyPost_ret (results_cell_mid rfl _ _ b2 _ _ rfl hz Try.underlying35 rfl (by rw [hel.out]; exact info35)) rfl ?_
          exact ⟨by rw [ofOut_t HR.out]; rfl, hbz⟩
end Go.Proofs.Ytmckngkmlhemoaa
