/- Layer 23 (maps): the document's Snap. Printed by genQf.py. -/
import Derived.Test.YtodhaaaodmcplaaGreatQe
set_option linter.all false
namespace Go.Proofs.YtodhaaaodmcplaaGreat
open Go.RowKit Go.Maps Go.WideMaps
set_option maxRecDepth 100000 in
set_option maxHeartbeats 8000000 in
theorem rsnap_p {n0 : Nat} {w : World} {p : Nat} {st : MS} (h : Rs n0 w p st) (hn0 : n0 ≤ w.heap.size) (id : Int) : Calls Tryz.prog 28 #[.pointer (some ⟨p, 0, none⟩), .int .i64 id] w fun e w' => e = .returned (.int .i64 (snapE st id)) ∧ OutR n0 w w' p (snapM st id) := by
  have HS := Lib.hid h
  have HN0 := Lib.hid hn0
  obtain ⟨i0, hi, hz0, hz1, hz2⟩ := infoParts infoOneR
  have HI := Lib.hid (And.intro hi (And.intro hz0 (And.intro hz1 hz2)))
  obtain ⟨i1, hi, hz0, hz1, hz2⟩ := infoParts infoSlP
  have HJ := Lib.hid (And.intro hi (And.intro hz0 (And.intro hz1 hz2)))
  have HP2 : Hid (0 < 2) := Lib.hid (by decide)
  have HP34 : Hid (0 < 34) := Lib.hid (by decide)
  obtain ⟨g, cap, V, hx⟩ := h
  have H := Lib.hid hx
  clear hi hz0 hz1 hz2 hn0
  go_enter Tryz.func28, Tryz.ntmps28
  go_upto_region 1 with fail
  by_cases h0 : id < 1
  · have d0 : decide (id < 1) = true := by simpa using h0
    have HE := Lib.hid (snap_two (st := st) (.inl h0))
    clear hx
    go_wp2_with fail
    go_ret
    exact ⟨ret_int HE.out.1.symm, by rw [HE.out.2]; exact outRB (Below.refl _ _) HS.out⟩
  have d0 : decide (id < 1) = false := by simpa using h0
  by_cases h1 : 1073741824 < id
  · have d1 : decide (1073741824 < id) = true := by simpa using h1
    have HE := Lib.hid (snap_two (st := st) (.inr h1))
    clear hx
    go_wp2_with fail
    go_ret
    exact ⟨ret_int HE.out.1.symm, by rw [HE.out.2]; exact outRB (Below.refl _ _) HS.out⟩
  have d1 : decide (1073741824 < id) = false := by simpa using h1
  have HID : Hid (¬ (id < 1 ∨ 1073741824 < id)) := Lib.hid (by omega)
  have hof : ofM st id = findS id st.snaps := if_neg (by omega)
  rcases hf : findS id st.snaps with _ | F
  rotate_left
  · have HE := Lib.hid (snap_seven HID.out hf)
    obtain ⟨i, hi, he, _, hj⟩ := of_pos hx.inv (hof.trans hf)
    have HC := Lib.hid (find_yes hx id i hi he hj)
    have d2 : decide ((0 : Int) ≤ i) = true := by simp
    clear hx hof hf hi he hj
    go_wp2_with fail
    refine HC.out.mono ?_
    rintro e _ ⟨rfl, rfl⟩
    go_wp2_with fail
    go_ret
    exact ⟨ret_int HE.out.1.symm, by rw [HE.out.2]; exact outRB (Below.refl _ _) HS.out⟩
  have HF := Lib.hid hf
  have HC := Lib.hid (find_no hx id (hof.trans hf))
  have c0 := hx.at0
  have hlen := all_len st
  obtain ⟨T, hT⟩ : ∃ T, T = (allS st).length := ⟨_, rfl⟩
  have HTL := Lib.hid hT
  rw [← hT] at c0 hlen
  have hT9 : T ≤ 9 := by have := hx.inv.len; omega
  by_cases h8 : 8 < T
  · have d2 : decide (8 < T) = true := by simpa using h8
    have d3 : decide ((8 : Int) < (T : Int)) = true := by simp; omega
    have HE := Lib.hid (snap_full HID.out HF.out (by omega))
    clear hx hof hf hT hlen
    go_wp2_with fail
    refine HC.out.mono ?_
    rintro e _ ⟨rfl, rfl⟩
    go_wp2_with fail
    go_ret
    exact ⟨ret_int HE.out.1.symm, by rw [HE.out.2]; exact outRB (Below.refl _ _) HS.out⟩
  have d2 : decide (8 < T) = false := by simpa using h8
  have d3 : decide ((8 : Int) < (T : Int)) = false := by simp; omega
  have HE := Lib.hid (snap_ok HID.out HF.out (by omega))
  have HINV : Hid (Inv (snapM st id)) := Lib.hid (inv_snap hx.inv id)
  have hT8 : T ≤ 8 := by omega
  have hT1 : 1 ≤ T := by omega
  clear hof hf hT hlen h0 h1 h8
  go_wp2_with fail
  refine HC.out.mono ?_
  rintro e _ ⟨rfl, rfl⟩
  go_upto_block 0 with fail
  go_cut [5] from 23 to 43 (fun s5 wx => ∃ m : Nat, 1 ≤ m ∧ m ≤ T ∧ s5 = .int .i64 m ∧ w = wx ∧ (∀ j, 1 ≤ j → j < m → idA st j < id) ∧ (m < T → ¬ idA st m < id))
  case first =>
    go_wp2_with fail
    go_loopw [5] (fun i wr => ∃ m : Nat, 1 ≤ m ∧ m ≤ T ∧ i = .int .i64 m ∧ w = wr ∧ ∀ j, 1 ≤ j → j < m → idA st j < id) (fun i _ => T - (Go.RowKit.intOf i).toNat)
    case atStart => exact ⟨1, Nat.le_refl _, hT1, rfl, by first | rfl | trivial, fun j h1 h2 => by omega⟩
    case round =>
      obtain ⟨m, hm1, hm2, rfl, rfl, hall⟩ := hrel
      have HALL := Lib.hid hall
      clear hall
      by_cases hlt : m < T
      · have cj := H.out.id_cell (i := m) (by have := HTL.out; omega)
        obtain ⟨x, hx9⟩ : ∃ x, x = idA st m := ⟨_, rfl⟩
        rw [← hx9] at cj
        have HX9 := Lib.hid hx9
        have i1 : (0 : Int) ≤ m := by omega
        have i2 : (m : Int) < T := by omega
        clear hx9
        by_cases hid : x < id
        · have b1 : decide (x < id) = true := by simpa using hid
          have HNX : Hid (∀ j, 1 ≤ j → j < m + 1 → idA st j < id) := Lib.hid fun j h1 h2 => by
            rcases (by omega : j < m ∨ j = m) with h | rfl
            · exact HALL.out j h1 h
            · rw [← HX9.out]; exact hid
          go_wp2_with fail
          exact ⟨⟨m + 1, by omega, by omega, by push_cast; rfl, by first | rfl | trivial, HNX.out⟩, by simp [Go.RowKit.intOf]; omega⟩
        · have b1 : decide (x < id) = false := by simpa using hid
          have HNX : Hid (m < T → ¬ idA st m < id) := Lib.hid fun _ => by rw [← HX9.out]; exact hid
          go_wp2_with fail
          go_meet
          exact ⟨m, hm1, hm2, rfl, by first | rfl | trivial, HALL.out, HNX.out⟩
      · obtain rfl : m = T := by omega
        go_wp2_with fail
        go_meet
        exact ⟨m, hm1, Nat.le_refl _, rfl, by first | rfl | trivial, HALL.out, fun h => absurd h (by omega)⟩
  case rest =>
    obtain ⟨m, hm1, hm2, rfl, rfl, hall, hge⟩ := hcut
    have HM1 := Lib.hid hm1
    have HINS := Lib.hid (all_ins (st := st) (id := id) (F := st.now) (m := m) hall hm1 (by have := HTL.out; omega) (fun h => hge (by have := HTL.out; omega)))
    have hx := H.out
    have HPL := hx.lt
    have hgl := row_lt hx.row (k := g) rfl
    obtain ⟨b, c, hV, _, hbl, _⟩ := hx.opened hx.pos
    have ho := hx.sl 0 hx.pos
    rw [mpA_zero] at ho
    rw [hV] at ho
    have hn := hx.inv.n
    obtain ⟨n, hn1⟩ : ∃ n, n = st.n := ⟨_, rfl⟩
    rw [← hn1] at ho hn
    have HN1 := Lib.hid hn1
    have HN5 : Hid (1 ≤ n ∧ n ≤ 512) := Lib.hid hn
    have HV1 : Hid (∀ i, i < T → (V i).oneCell' = true) := Lib.hid fun i hi2 => by
      obtain ⟨b, c, e, _⟩ := hx.opened (i := i) (by have := HTL.out; omega)
      rw [e]; rfl
    have HCAP : Hid (T ≤ cap) := Lib.hid (by rw [HTL.out]; exact hx.cap_le)
    have HSA : Hid (∀ W, Below w.heap.size w W → SArr W w.heap.size (some ⟨g, 0, none⟩) T 2 (rowC st V)) := Lib.hid fun W hb => by rw [HTL.out]; exact hx.sarr.below hb (Nat.le_refl _)
    have HP0 : Hid (∀ W, Below w.heap.size w W → W.cell? ⟨p, 0, none⟩ = some (.slice (some ⟨g, 0, none⟩) T cap) ∧ W.frozen? ⟨p, 0, none⟩ = false) := Lib.hid fun W hb => ⟨by rw [HTL.out]; exact (hx.go hb).at0, frozen_of_row W p _ _ _ (hx.go hb).cell⟩
    have HG1 : Hid (∀ W, Below w.heap.size w W → W.cell? ⟨g, 1, none⟩ = some (.slice (some ⟨b, 0, none⟩) n c)) := Lib.hid fun W hb => by
      have h9 := (hx.go hb).sl_cell hx.pos
      rw [hV, ← hn1] at h9
      simpa using h9
    have HO : Hid (∀ W, Below w.heap.size w W → W.ownsRow n0 33 34 (.slice (some ⟨b, 0, none⟩) n c) n (unitsC st.now n)) := Lib.hid fun W hb2 => (Keeps.fresh (S := fun _ => False) hb2).row ho fun _ _ h => h
    obtain ⟨A8, hA8⟩ : ∃ A8, A8 = if cap = m then (some ⟨g, 0, none⟩ : Option Addr) else (some ⟨g, 0, none⟩ : Option Addr).map (·.add (m * 2)) := ⟨_, rfl⟩
    have hrest : ∀ W, Below w.heap.size w W → SArr W w.heap.size A8 (T - m) 2 (fun i => rowC st V (m + i)) ∧ (A8 = none → T - m = 0 ∧ cap - m = 0) := fun W hb => by rw [hA8]; exact sarr_rest (HSA.out W hb) (fun h => by cases h) HCAP.out hm2
    have HN8 := Lib.hid (hrest w (Below.refl _ _)).2
    have HS8 : Hid (∀ W, Below w.heap.size w W → SArr W w.heap.size A8 (T - m) 2 (fun i => rowC st V (m + i))) := Lib.hid fun W hb => (hrest W hb).1
    have HTLR : Hid (∀ W, (Instr.sliceAt 57 (.slice (some ⟨g, 0, none⟩) T cap) (some (.int .i64 m)) none none).run Tryz.prog W = .ok (.slice A8 (T - m) (cap - m)) W) := Lib.hid fun W => by rw [hA8]; exact tailR hm2 W
    have HHD : Hid (∀ W, (Instr.sliceAt 57 (.slice (some ⟨g, 0, none⟩) T cap) none (some (.int .i64 m)) none).run Tryz.prog W = .ok (.slice (some ⟨g, 0, none⟩) m cap) W) := Lib.hid fun W => headR hm2 HCAP.out W
    have HFL : Hid ((flatS (rowC st V) m).length = m * 2) := Lib.hid (flatS_len (wideR st V) m)
    have HFL8 : Hid ((flatS (fun i => rowC st V (m + i)) (T - m)).length = (T - m) * 2) := Lib.hid (flatS_len (F := fun i => rowC st V (m + i)) (fun i => rfl) _)
    have HO1 : Hid (∀ u ∈ flatS (rowC st V) m, u.oneCell' = true) := Lib.hid (flatS_one fun j hj u hu => by
      unfold rowC at hu
      simp at hu
      rcases hu with rfl | rfl
      · rfl
      · exact HV1.out j (by omega))
    have HO8 : Hid (∀ u ∈ flatS (fun i => rowC st V (m + i)) (T - m), u.oneCell' = true) := Lib.hid (flatS_one fun j hj u hu => by
      unfold rowC at hu
      simp at hu
      rcases hu with rfl | rfl
      · rfl
      · exact HV1.out _ (by omega))
    have j1 : (0 : Int) < T := by omega
    have j2 : 0 < T := by omega
    clear hall hge hx hV ho hn hn1 hA8 hrest hbl c0 d0 d1 d2 d3
    -- next := append([]one, L[:k]...)
    have B4 : Hid (Below w.heap.size w (w.alloc (.cells #[] 56))) := Lib.hid ((Below.refl _ _).alloc (Nat.le_refl _) _)
    have OW0 : Hid ((w.alloc (.cells #[] 56)).ownsRow w.heap.size 56 2 (.slice (some ⟨w.heap.size, 0, none⟩) 0 0) 0 []) := Lib.hid (own_empty (heap_new w _) (Nat.le_refl _))
    have c4 := (HP0.out _ B4.out).1
    have c0 := (HP0.out w (Below.refl _ _)).1
    have NW : Hid (∀ ad, (some ⟨g, 0, none⟩ : Option Addr) = some ad → ∀ (j : Nat) (u : Value), (flatS (rowC st V) m)[j]? = some u → (w.alloc (.cells #[] 56)).cell? (ad.add j) = some u) := Lib.hid fun ad e => ((HSA.out _ B4.out).less hm2).cellsAt (wideR st V) ad e
    have NN : Hid ((some ⟨g, 0, none⟩ : Option Addr) = none → m = 0 ∧ cap = 0) := Lib.hid fun h => by cases h
    have M1 : Hid (0 + m ≤ maxLen) := Lib.hid (by unfold maxLen; omega)
    have M2 : Hid ((0 + m) * 32 ≤ 140737488355328) := Lib.hid (by omega)
    have M3 : Hid (w.heap.size ≤ (w.alloc (.cells #[] 56)).heap.size) := Lib.hid B4.out.size
    go_upto_region 10 with fail
    go_upto_region 11 with (first | (refine wpList_sliceG rfl 57 (.tmp 48) none (some (.tmp 49)) rfl (.slice (some ⟨g, 0, none⟩) T cap) rfl none (some (.int .i64 m)) rfl rfl (.slice (some ⟨g, 0, none⟩) m cap) (HHD.out _) ?_) | (refine wpList_append_any rfl (.tmp 44) (.tmp 50) 57 rfl w.heap.size 56 i0 (.agg #[.int .i64 0, .slice none 0 0]) 2 32 Tryz.underlying57 HI.out.1 HI.out.2.1 HI.out.2.2.1 HI.out.2.2.2 rfl HP2.out (.slice (some ⟨w.heap.size, 0, none⟩) 0 0) 0 [] rfl OW0.out (some ⟨g, 0, none⟩) m cap (flatS (rowC st V) m) rfl NN.out HFL.out NW.out HO1.out M1.out M2.out M3.out ?_; intro v5 w5 ho5 hg5))
    rw [Nat.zero_add, List.nil_append] at ho5
    have B5 : Hid (Below w.heap.size w w5) := Lib.hid (B4.out.grown hg5 B4.out.size (fun k e => by have e2 : w.heap.size = k := (by simpa [Value.ownBlock] using e); rw [← e2]; exact Nat.le_refl _))
    obtain ⟨g5, c5, rfl⟩ := own_shapeR ho5 (by omega)
    have O5 := Lib.hid ho5
    clear ho5 hg5 B4 OW0 c4 c0 NW NN M1 M2 M3
    -- its slice
    have B6 : Hid (Below w.heap.size w (w5.alloc (.cells #[] 33))) := Lib.hid (B5.out.alloc B5.out.size _)
    have OW0 : Hid ((w5.alloc (.cells #[] 33)).ownsRow w.heap.size 33 34 (.slice (some ⟨w5.heap.size, 0, none⟩) 0 0) 0 []) := Lib.hid (own_empty (heap_new w5 _) B5.out.size)
    have O6 : Hid ((w5.alloc (.cells #[] 33)).ownsRow w.heap.size 56 2 (.slice (some ⟨g5, 0, none⟩) m c5) m (flatS (rowC st V) m)) := Lib.hid (O5.out.alloc _)
    have c4 := (HP0.out _ B6.out).1
    have c3 := HG1.out _ B6.out
    have c2 := (HP0.out _ B5.out).1
    have c1 := HG1.out _ B5.out
    have NW := Lib.hid (own_news (HO.out _ B6.out) (Nat.le_refl _) (unitsC_len st.now n) fun _ _ h => h)
    have NN : Hid ((some ⟨b, 0, none⟩ : Option Addr) = none → n = 0 ∧ c = 0) := Lib.hid fun h => by cases h
    have UL := Lib.hid (unitsC_len st.now n)
    have UO := Lib.hid (unitsC_one st.now n)
    have M1 : Hid (0 + n ≤ maxLen) := Lib.hid (by have := HN5.out; unfold maxLen; omega)
    have M2 : Hid ((0 + n) * 48 ≤ 140737488355328) := Lib.hid (by have := HN5.out; omega)
    have M3 : Hid (w.heap.size ≤ (w5.alloc (.cells #[] 33)).heap.size) := Lib.hid B6.out.size
    go_upto_region 11 with fail
    go_step
    repeat ((fail_if_success (refine wpList_append_any rfl (.tmp 54) (.tmp 61) 54 rfl w.heap.size 33 i1 (.agg zS.toArray) 34 48 Tryz.underlying54 HJ.out.1 HJ.out.2.1 HJ.out.2.2.1 HJ.out.2.2.2 rfl HP34.out (.slice (some ⟨w5.heap.size, 0, none⟩) 0 0) 0 [] rfl OW0.out (some ⟨b, 0, none⟩) n c (unitsC st.now n) rfl NN.out UL.out NW.out UO.out M1.out M2.out M3.out ?_)); go_step)
    refine wpList_append_any rfl (.tmp 54) (.tmp 61) 54 rfl w.heap.size 33 i1 (.agg zS.toArray) 34 48 Tryz.underlying54 HJ.out.1 HJ.out.2.1 HJ.out.2.2.1 HJ.out.2.2.2 rfl HP34.out (.slice (some ⟨w5.heap.size, 0, none⟩) 0 0) 0 [] rfl OW0.out (some ⟨b, 0, none⟩) n c (unitsC st.now n) rfl NN.out UL.out NW.out UO.out M1.out M2.out M3.out ?_
    intro v6 w6 ho6 hg6
    try simp only [Act.put, List.setIfInBounds_toArray, List.set_cons_zero, List.set_cons_succ]
    rw [Nat.zero_add, List.nil_append] at ho6
    have hk6 : Keeps (fun k => k = w5.heap.size) (w5.alloc (.cells #[] 33)) w6 := Keeps.grown hg6 fun k e => by have e2 : w5.heap.size = k := (by simpa [Value.ownBlock] using e); exact e2.symm
    have B7 : Hid (Below w.heap.size w w6) := Lib.hid (B6.out.trans (hk6.below (fun k e => by rw [e]; exact B5.out.size) B6.out.size))
    have O7 : Hid (w6.ownsRow w.heap.size 56 2 (.slice (some ⟨g5, 0, none⟩) m c5) m (flatS (rowC st V) m)) := Lib.hid (hk6.row O6.out fun k hb e => by
      have e2 : g5 = k := (by simpa [Value.ownBlock] using hb)
      have := (row_lt O5.out (k := g5) rfl).2
      omega)
    obtain ⟨A6, c6, rfl⟩ := row_shapeS ho6
    have U6 := Lib.hid ho6
    clear ho6 hg6 hk6 OW0 c4 c3 c2 c1 NW NN UL UO M1 M2 M3 B6 O6
    obtain ⟨cs, hcs⟩ : ∃ cs : List Value, cs = [.int .i64 id, .slice A6 n c6] := ⟨_, rfl⟩
    have HCS := Lib.hid hcs
    have HSI : Hid (i0.size = cs.length) := Lib.hid (by rw [hcs]; exact HI.out.2.2.1)
    have HSP : Hid (0 < cs.length) := Lib.hid (by rw [hcs]; simp)
    have HSQ : Hid (cs.length ≤ 2 ^ 24) := Lib.hid (by rw [hcs]; simp)
    have HNL : Hid (cs.length = 1 * 2) := Lib.hid (by rw [hcs]; rfl)
    have HCO : Hid (∀ v ∈ cs, v.oneCell' = true) := Lib.hid (by rw [hcs]; intro v hv; simp at hv; rcases hv with rfl | rfl <;> rfl)
    have HNW : Hid (∀ ad, (some ⟨w6.heap.size, 0, none⟩ : Option Addr) = some ad → ∀ (j : Nat) (u : Value), cs[j]? = some u → (w6.alloc (.cells cs.toArray 56)).cell? (ad.add j) = some u) := Lib.hid fun ad e j u hj => by injection e with e; subst e; exact cells_new _ _ _ j u hj
    have HNN : Hid ((some ⟨w6.heap.size, 0, none⟩ : Option Addr) = none → 1 = 0 ∧ 1 = 0) := Lib.hid fun h => by cases h
    have HOW : Hid ((w6.alloc (.cells cs.toArray 56)).ownsRow w.heap.size 56 2 (.slice (some ⟨g5, 0, none⟩) m c5) m (flatS (rowC st V) m)) := Lib.hid (O7.out.alloc _)
    have M1 : Hid (m + 1 ≤ maxLen) := Lib.hid (by unfold maxLen; omega)
    have M2 : Hid ((m + 1) * 32 ≤ 140737488355328) := Lib.hid (by omega)
    have M3 : Hid (w.heap.size ≤ (w6.alloc (.cells cs.toArray 56)).heap.size) := Lib.hid (by have := B7.out.size; simp; omega)
    have HEV : Hid (#[.int .i64 id, .slice A6 n c6] = cs.toArray) := Lib.hid (by rw [hcs])
    clear hcs
    go_step
    try rw [HEV.out]
    repeat ((fail_if_success (refine wpList_slice1 rfl 57 56 (.tmp 63) rfl cs (by first | rfl | exact congrArg Value.agg HEV.out) i0 (.agg #[.int .i64 0, .slice none 0 0]) Tryz.underlying57 HI.out.1 HI.out.2.1 HSI.out HSP.out HSQ.out ?_)); go_step)
    refine wpList_slice1 rfl 57 56 (.tmp 63) rfl cs (by first | rfl | exact congrArg Value.agg HEV.out) i0 (.agg #[.int .i64 0, .slice none 0 0]) Tryz.underlying57 HI.out.1 HI.out.2.1 HSI.out HSP.out HSQ.out ?_
    try simp only [Act.put, List.setIfInBounds_toArray, List.set_cons_zero, List.set_cons_succ]
    repeat ((fail_if_success (refine wpList_append_any rfl (.tmp 52) (.tmp 64) 57 rfl w.heap.size 56 i0 (.agg #[.int .i64 0, .slice none 0 0]) 2 32 Tryz.underlying57 HI.out.1 HI.out.2.1 HI.out.2.2.1 HI.out.2.2.2 rfl HP2.out (.slice (some ⟨g5, 0, none⟩) m c5) m (flatS (rowC st V) m) rfl HOW.out (some ⟨w6.heap.size, 0, none⟩) 1 1 cs rfl HNN.out HNL.out HNW.out HCO.out M1.out M2.out M3.out ?_)); go_step)
    refine wpList_append_any rfl (.tmp 52) (.tmp 64) 57 rfl w.heap.size 56 i0 (.agg #[.int .i64 0, .slice none 0 0]) 2 32 Tryz.underlying57 HI.out.1 HI.out.2.1 HI.out.2.2.1 HI.out.2.2.2 rfl HP2.out (.slice (some ⟨g5, 0, none⟩) m c5) m (flatS (rowC st V) m) rfl HOW.out (some ⟨w6.heap.size, 0, none⟩) 1 1 cs rfl HNN.out HNL.out HNW.out HCO.out M1.out M2.out M3.out ?_
    intro v8 w8 ho8 hg8
    try simp only [Act.put, List.setIfInBounds_toArray, List.set_cons_zero, List.set_cons_succ]
    have hk8 : Keeps (fun k => k = g5) (w6.alloc (.cells cs.toArray 56)) w8 := Keeps.grown hg8 fun k e => by have e2 : g5 = k := (by simpa [Value.ownBlock] using e); exact e2.symm
    have HG5 := (row_lt O7.out (k := g5) rfl).1
    have B8 : Hid (Below w.heap.size w w8) := Lib.hid ((B7.out.alloc B7.out.size _).trans (hk8.below (fun k e => by rw [e]; exact HG5) (by have := B7.out.size; simp; omega)))
    have U8 : Hid (w8.ownsRow w.heap.size 33 34 (.slice A6 n c6) n (unitsC st.now n)) := Lib.hid (hk8.row (U6.out.alloc _) fun k hb e => by
      subst e
      obtain ⟨_, d1, h1⟩ := own_cells U6.out hb
      obtain ⟨_, d2, h2⟩ := own_cells O7.out (k := k) rfl
      exact cells_ne h1 h2 (by decide) rfl)
    obtain ⟨g8, c8, rfl⟩ := own_shapeR ho8 (by omega)
    have O8 := Lib.hid ho8
    clear ho8 hg8 hk8 HG5 HNW HNN HOW M1 M2 M3 U6 O7
    go_upto_region 12 with fail
    have c4 := (HP0.out _ B8.out).1
    have NW : Hid (∀ ad, A8 = some ad → ∀ (j : Nat) (u : Value), (flatS (fun i => rowC st V (m + i)) (T - m))[j]? = some u → w8.cell? (ad.add j) = some u) := Lib.hid fun ad e => (HS8.out w8 B8.out).cellsAt (F := fun i => rowC st V (m + i)) (fun i => rfl) ad e
    have M1 : Hid (m + 1 + (T - m) ≤ maxLen) := Lib.hid (by unfold maxLen; omega)
    have M2 : Hid ((m + 1 + (T - m)) * 32 ≤ 140737488355328) := Lib.hid (by omega)
    have M3 : Hid (w.heap.size ≤ w8.heap.size) := Lib.hid B8.out.size
    go_upto_region 12 with fail
    go_step
    repeat ((fail_if_success (refine wpList_sliceG rfl 57 (.tmp 71) (some (.tmp 72)) none rfl (.slice (some ⟨g, 0, none⟩) T cap) rfl (some (.int .i64 m)) none rfl rfl (.slice A8 (T - m) (cap - m)) (HTLR.out _) ?_)); go_step)
    refine wpList_sliceG rfl 57 (.tmp 71) (some (.tmp 72)) none rfl (.slice (some ⟨g, 0, none⟩) T cap) rfl (some (.int .i64 m)) none rfl rfl (.slice A8 (T - m) (cap - m)) (HTLR.out _) ?_
    try simp only [Act.put, List.setIfInBounds_toArray, List.set_cons_zero, List.set_cons_succ]
    repeat ((fail_if_success (refine wpList_append_any rfl (.tmp 67) (.tmp 73) 57 rfl w.heap.size 56 i0 (.agg #[.int .i64 0, .slice none 0 0]) 2 32 Tryz.underlying57 HI.out.1 HI.out.2.1 HI.out.2.2.1 HI.out.2.2.2 rfl HP2.out (.slice (some ⟨g8, 0, none⟩) (m + 1) c8) (m + 1) (flatS (rowC st V) m ++ cs) rfl O8.out A8 (T - m) (cap - m) (flatS (fun i => rowC st V (m + i)) (T - m)) rfl HN8.out HFL8.out NW.out HO8.out M1.out M2.out M3.out ?_)); go_step)
    refine wpList_append_any rfl (.tmp 67) (.tmp 73) 57 rfl w.heap.size 56 i0 (.agg #[.int .i64 0, .slice none 0 0]) 2 32 Tryz.underlying57 HI.out.1 HI.out.2.1 HI.out.2.2.1 HI.out.2.2.2 rfl HP2.out (.slice (some ⟨g8, 0, none⟩) (m + 1) c8) (m + 1) (flatS (rowC st V) m ++ cs) rfl O8.out A8 (T - m) (cap - m) (flatS (fun i => rowC st V (m + i)) (T - m)) rfl HN8.out HFL8.out NW.out HO8.out M1.out M2.out M3.out ?_
    intro v9 w9 ho9 hg9
    try simp only [Act.put, List.setIfInBounds_toArray, List.set_cons_zero, List.set_cons_succ]
    have hk9 : Keeps (fun k => k = g8) w8 w9 := Keeps.grown hg9 fun k e => by have e2 : g8 = k := (by simpa [Value.ownBlock] using e); exact e2.symm
    have HG8 := (row_lt O8.out (k := g8) rfl).1
    have B9 : Hid (Below w.heap.size w w9) := Lib.hid (B8.out.trans (hk9.below (fun k e => by rw [e]; exact HG8) B8.out.size))
    have U9 : Hid (w9.ownsRow w.heap.size 33 34 (.slice A6 n c6) n (unitsC st.now n)) := Lib.hid (hk9.row U8.out fun k hb e => by
      subst e
      obtain ⟨_, d1, h1⟩ := own_cells U8.out hb
      obtain ⟨_, d2, h2⟩ := own_cells O8.out (k := k) rfl
      exact cells_ne h1 h2 (by decide) rfl)
    have e9 : m + 1 + (T - m) = T + 1 := by omega
    rw [e9] at ho9
    obtain ⟨g9, c9, rfl⟩ := own_shapeR ho9 (by omega)
    rw [HCS.out] at ho9
    have O9 := Lib.hid ho9
    have c4 := (HP0.out _ B9.out).1
    have f4 := (HP0.out _ B9.out).2
    clear ho9 hg9 hk9 HG8 NW M1 M2 M3 U8 O8 HEV e9
    go_wp2_with fail
    go_ret
    obtain ⟨wz, hwz⟩ : ∃ wz, wz = w9.setCell ⟨p, 0, none⟩ (.slice (some ⟨g9, 0, none⟩) (T + 1) c9) := ⟨_, rfl⟩
    have hR := H.out.ins (m := m) (id := id) (F := st.now) (v := .slice A6 n c6) (s := snapM st id) (w2 := wz) B9.out HN0.out (by rw [HE.out.2]; exact HINS.out) HM1.out (by have := HTL.out; omega) (by rw [HE.out.2]) HINV.out (by rw [← HN1.out]; exact U9.out) (by rw [← HTL.out]; exact O9.out) (by rw [← HTL.out]; exact hwz)
    rw [← hwz]
    exact ⟨ret_int HE.out.1.symm, hR⟩
end Go.Proofs.YtodhaaaodmcplaaGreat
