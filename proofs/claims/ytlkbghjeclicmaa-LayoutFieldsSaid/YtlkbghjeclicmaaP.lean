/- Part of the proof of the statements of layer 11 (layout): the law LayoutApart returns true at every input. No condition. -/
import Derived.Test.YtlkbghjeclicmaaM
import Derived.Deep.DeepMust
namespace Go.Proofs.Ytlkbghjeclicmaa
open Go.RowKit
theorem info4 : (Try.prog.info? 4).map (fun i => (i.zero, i.size, i.bytes)) = some (some (.bool false), 1, 1) := by kernel_rfl
set_option maxHeartbeats 8000000 in
theorem apart6 (g : Geo) (w : World) : Calls Try.prog 6 #[gv g] w fun e w' => e = .returned (.bool true) ∧ Below w.heap.size w w' := by
  obtain ⟨i0, ii, iz0, iz1, iz2⟩ := info_parts info4
  have K0 := Lib.hid (heap_new w (.cells (gcs g) 24))
  have hz0 : w.heap.size < (w.alloc (.cells (gcs g) 24)).heap.size := by simp
  have hT0 : Below w.heap.size w (w.alloc (.cells (gcs g) 24)) := (Below.refl _ w).alloc (Nat.le_refl _) _
  obtain ⟨e0, e1, e2, e3, e4⟩ := geo_at K0.out
  by_cases h : rightB g = true
  · have e5 := total_segs g
    have hf := fine_right h
    have ht := total_right h
    have hp := hf.prod
    have hq := hf.pages
    have v1 := hf.v1
    have v2 := hf.v2
    have s1 := hf.s1
    have s2 := hf.s2
    have g1 := hf.g1
    have g2 := hf.g2
    have j1 := hf.j1
    have j2 := hf.j2
    have u1 := hf.u1
    have q3 : totalV g = total g := by simp [totalV, h]
    obtain ⟨M, hM⟩ : ∃ M : Nat, total g = M := ⟨(total g).toNat, by have : segs g = 2 + 2 * g.J + 4 * pagesN g := rfl
                                                                    omega⟩
    have HM := Lib.hid (q3.trans hM)
    have HE := Lib.hid e5
    have hMb : (M : Int) ≤ 262144 := by omega
    clear e5 q3 hM
    go_enter Try.func6, Try.ntmps6
    go_wp2_with fail
    refine (awake7 _).mono ?_
    rintro e w1 ⟨rfl, hb1⟩
    have hz1 := Nat.lt_of_lt_of_le hz0 hb1.size
    have K1 := Lib.hid ((hb1.block (w.heap.size) hz0).trans K0.out)
    have hT1 : Below w.heap.size w w1 := hT0.trans (hb1.mono hT0.size)
    clear e0 e1 e2 e3 e4 hb1
    obtain ⟨e0, e1, e2, e3, e4⟩ := geo_at K1.out
    go_wp2_with fail
    refine (right10t g _ h).mono ?_
    rintro e w2 ⟨rfl, hb2⟩
    have hz2 := Nat.lt_of_lt_of_le hz1 hb2.size
    have K2 := Lib.hid ((hb2.block (w.heap.size) hz1).trans K1.out)
    have hT2 : Below w.heap.size w w2 := hT1.trans (hb2.mono hT1.size)
    clear e0 e1 e2 e3 e4 hb2
    obtain ⟨e0, e1, e2, e3, e4⟩ := geo_at K2.out
    go_wp2_with fail
    refine (sectors12 g _).mono ?_
    rintro e w3 ⟨rfl, hb3⟩
    have hz3 := Nat.lt_of_lt_of_le hz2 hb3.size
    have K3 := Lib.hid ((hb3.block (w.heap.size) hz2).trans K2.out)
    have hT3 : Below w.heap.size w w3 := hT2.trans (hb3.mono hT2.size)
    clear e0 e1 e2 e3 e4 hb3
    obtain ⟨e0, e1, e2, e3, e4⟩ := geo_at K3.out
    rw [HM.out]
    go_wp2_with (at_make; refine wpList_make_full _ rfl _ _ 34 rfl w.heap.size 4 i0 (.bool false) 1 Try.underlying34 ii iz0 iz1 _ _ _ _ M rfl rfl (by rfl) (by rfl) (by rw [iz2]; omega) (by unfold maxLen; omega) hT3.size ?_; intro wm hown hg)
    obtain ⟨gb, hgb⟩ : ∃ gb, w3.heap.size = gb := ⟨_, rfl⟩
    have hbm : Below w.heap.size w wm := hT3.trans (((Below.refl _ w3).grown hg (Nat.le_refl _) (by simp)).mono hT3.size)
    have hlt : w.heap.size < gb := hgb ▸ hz3
    have KM := Lib.hid ((((Below.refl _ w3).grown hg (Nat.le_refl _) (by simp)).block w.heap.size hz3).trans K3.out)
    have hC : wm.heap[gb]? = some (.cells (bcs M (fun j : Nat => decide ((j : Int) < 0))) 4 (0, 0)) := by
      rw [hgb] at hown
      rcases hown.2 with ⟨hx, _⟩ | ⟨gq, cap, cur, hx, _, hh, _, _, hsz, htk⟩
      · simp at hx
      · simp only [Value.slice.injEq, Option.some.injEq, Addr.mk.injEq] at hx
        obtain ⟨⟨rfl, _⟩, _, rfl⟩ := hx
        rw [hh]
        congr 2
        rw [List.take_of_length_le (by simp; omega)] at htk
        refine bcs_ext (by simpa using hsz) (fun j hj => ?_)
        rw [← Array.getElem?_toList, htk]
        have e : decide ((j : Int) < 0) = false := by simp
        rw [e]
        simp [madeCells, Value.cells, hj, Nat.mod_one]
    have CM := Lib.hid hC
    have HG : Hid (w3.heap.size = gb) := Lib.hid hgb
    rw [hgb]
    clear hown hg hC hgb e0 e1 e2 e3 e4
    obtain ⟨e0, e1, e2, e3, e4⟩ := geo_at KM.out
    have hMM : (M : Int) = 2 + 2 * g.J + 4 * pagesN g + g.S * g.G := (HM.out.symm.trans (show totalV g = total g by simp [totalV, h])).trans HE.out
    have HMM := Lib.hid hMM
    have hMl : 2 + 2 * g.J + 4 * pagesN g ≤ (M : Int) := by omega
    clear hMM
    have x1 : slotV g 0 = 0 := by simp [slotV, h]
    have x2 : slotV g 1 = 1 := by simp [slotV, h]
    have x3 : halfV g 0 = 2 := by simp [halfV, h]
    have x4 : halfV g 1 = 2 + g.J := by simp [halfV, h]
    have x5 : areaV g 0 = 2 + 2 * g.J := by simp [areaV, h]
    have x6 : areaV g 1 = 2 + 2 * g.J + 2 * pagesN g := by simp [areaV, h]
    have x7 : pagesV g = pagesN g := by simp [pagesV, h]
    have x8 : IntKind.i64.wrap (2 * pagesN g) = 2 * pagesN g := IntWalk.i64_in _ (by omega)
    have tok1 : True := trivial
    have tok2 : True := trivial
    have tok3 : True := trivial
    have tok4 : True := trivial
    have tok5 : True := trivial
    have tok6 : True := trivial
    refine wp_loop_rounds 3 ?_
    rw [rounds_succ]
    go_wp2_with fail
    go_region_held3 (fun w' => w'.cell? ⟨w.heap.size, 0, none⟩ = some (.int .i64 g.V) ∧ w'.cell? ⟨w.heap.size, 1, none⟩ = some (.int .i64 g.S) ∧ w'.cell? ⟨w.heap.size, 2, none⟩ = some (.int .i64 g.G) ∧ w'.cell? ⟨w.heap.size, 3, none⟩ = some (.int .i64 g.U) ∧ w'.cell? ⟨w.heap.size, 4, none⟩ = some (.int .i64 g.J)) (go_keep)
      (first | (go_at_call 19; refine (slot19 g _ _).mono ?_; rintro e u0 ⟨rfl, hbu0⟩; have Ku0 := Lib.hid ((hbu0.block w.heap.size (heap_lt KM.out)).trans KM.out); have Cu0 := Lib.hid ((hbu0.block gb (heap_lt CM.out)).trans CM.out); obtain ⟨xu00, xu01, xu02, xu03, xu04⟩ := geo_at Ku0.out) | (go_at_call 26; have _t := tok1; refine (cover26 M gb (fun j : Nat => decide ((j : Int) < 0)) (fun j : Nat => decide ((j : Int) < 1)) _ _ _ ?_ ?_ ?_ ?_ ?_ ?_ Cu0.out).mono ?_; (· go_must (omega)); (· go_must (omega)); (· go_must (omega)); (· go_must (omega)); (· intro j h1 h2; go_must ((try simp) <;> omega)); (· intro j hj; rw [Bool.eq_iff_iff]; go_must ((try simp) <;> omega)); rintro e u1 ⟨rfl, hbu1, hcu1⟩; have Ku1 := Lib.hid ((hbu1.block w.heap.size hlt).trans Ku0.out); have Cu1 := Lib.hid hcu1; clear hcu1 tok1; obtain ⟨xu10, xu11, xu12, xu13, xu14⟩ := geo_at Ku1.out) | (go_at_call 21; refine (half21 g _ _).mono ?_; rintro e u2 ⟨rfl, hbu2⟩; have Ku2 := Lib.hid ((hbu2.block w.heap.size (heap_lt Ku1.out)).trans Ku1.out); have Cu2 := Lib.hid ((hbu2.block gb (heap_lt Cu1.out)).trans Cu1.out); obtain ⟨xu20, xu21, xu22, xu23, xu24⟩ := geo_at Ku2.out) | (go_at_call 26; have _t := tok2; refine (cover26 M gb (fun j : Nat => decide ((j : Int) < 1)) (fun j : Nat => decide ((j : Int) < 1 ∨ 2 ≤ (j : Int) ∧ (j : Int) < 2 + g.J)) _ _ _ ?_ ?_ ?_ ?_ ?_ ?_ Cu2.out).mono ?_; (· go_must (omega)); (· go_must (omega)); (· go_must (omega)); (· go_must (omega)); (· intro j h1 h2; go_must ((try simp) <;> omega)); (· intro j hj; rw [Bool.eq_iff_iff]; go_must ((try simp) <;> omega)); rintro e u3 ⟨rfl, hbu3, hcu3⟩; have Ku3 := Lib.hid ((hbu3.block w.heap.size hlt).trans Ku2.out); have Cu3 := Lib.hid hcu3; clear hcu3 tok2; obtain ⟨xu30, xu31, xu32, xu33, xu34⟩ := geo_at Ku3.out) | (go_at_call 23; refine (area23 g _ _).mono ?_; rintro e u4 ⟨rfl, hbu4⟩; have Ku4 := Lib.hid ((hbu4.block w.heap.size (heap_lt Ku3.out)).trans Ku3.out); have Cu4 := Lib.hid ((hbu4.block gb (heap_lt Cu3.out)).trans Cu3.out); obtain ⟨xu40, xu41, xu42, xu43, xu44⟩ := geo_at Ku4.out) | (go_at_call 17; refine (pages17 g _).mono ?_; rintro e u5 ⟨rfl, hbu5⟩; have Ku5 := Lib.hid ((hbu5.block w.heap.size (heap_lt Ku4.out)).trans Ku4.out); have Cu5 := Lib.hid ((hbu5.block gb (heap_lt Cu4.out)).trans Cu4.out); obtain ⟨xu50, xu51, xu52, xu53, xu54⟩ := geo_at Ku5.out) | (go_at_call 26; have _t := tok3; refine (cover26 M gb (fun j : Nat => decide ((j : Int) < 1 ∨ 2 ≤ (j : Int) ∧ (j : Int) < 2 + g.J)) (fun j : Nat => decide ((j : Int) < 1 ∨ (2 ≤ (j : Int) ∧ (j : Int) < 2 + g.J) ∨ (2 + 2 * g.J ≤ (j : Int) ∧ (j : Int) < 2 + 2 * g.J + 2 * pagesN g))) _ _ _ ?_ ?_ ?_ ?_ ?_ ?_ Cu5.out).mono ?_; (· go_must (omega)); (· go_must (omega)); (· go_must (omega)); (· go_must (omega)); (· intro j h1 h2; go_must ((try simp) <;> omega)); (· intro j hj; rw [Bool.eq_iff_iff]; go_must ((try simp) <;> omega)); rintro e u6 ⟨rfl, hbu6, hcu6⟩; have Ku6 := Lib.hid ((hbu6.block w.heap.size hlt).trans Ku5.out); have Cu6 := Lib.hid hcu6; clear hcu6 tok3; obtain ⟨xu60, xu61, xu62, xu63, xu64⟩ := geo_at Ku6.out))
    go_wp2_with fail
    rw [rounds_succ]
    go_wp2_with fail
    go_region_held3 (fun w' => w'.cell? ⟨w.heap.size, 0, none⟩ = some (.int .i64 g.V) ∧ w'.cell? ⟨w.heap.size, 1, none⟩ = some (.int .i64 g.S) ∧ w'.cell? ⟨w.heap.size, 2, none⟩ = some (.int .i64 g.G) ∧ w'.cell? ⟨w.heap.size, 3, none⟩ = some (.int .i64 g.U) ∧ w'.cell? ⟨w.heap.size, 4, none⟩ = some (.int .i64 g.J)) (go_keep)
      (first | (go_at_call 19; refine (slot19 g _ _).mono ?_; rintro e v0 ⟨rfl, hbv0⟩; have Kv0 := Lib.hid ((hbv0.block w.heap.size (heap_lt Ku6.out)).trans Ku6.out); have Cv0 := Lib.hid ((hbv0.block gb (heap_lt Cu6.out)).trans Cu6.out); obtain ⟨xv00, xv01, xv02, xv03, xv04⟩ := geo_at Kv0.out) | (go_at_call 26; have _t := tok4; refine (cover26 M gb (fun j : Nat => decide ((j : Int) < 1 ∨ (2 ≤ (j : Int) ∧ (j : Int) < 2 + g.J) ∨ (2 + 2 * g.J ≤ (j : Int) ∧ (j : Int) < 2 + 2 * g.J + 2 * pagesN g))) (fun j : Nat => decide ((j : Int) < 2 ∨ (2 ≤ (j : Int) ∧ (j : Int) < 2 + g.J) ∨ (2 + 2 * g.J ≤ (j : Int) ∧ (j : Int) < 2 + 2 * g.J + 2 * pagesN g))) _ _ _ ?_ ?_ ?_ ?_ ?_ ?_ Cv0.out).mono ?_; (· go_must (omega)); (· go_must (omega)); (· go_must (omega)); (· go_must (omega)); (· intro j h1 h2; go_must ((try simp) <;> omega)); (· intro j hj; rw [Bool.eq_iff_iff]; go_must ((try simp) <;> omega)); rintro e v1 ⟨rfl, hbv1, hcv1⟩; have Kv1 := Lib.hid ((hbv1.block w.heap.size hlt).trans Kv0.out); have Cv1 := Lib.hid hcv1; clear hcv1 tok4; obtain ⟨xv10, xv11, xv12, xv13, xv14⟩ := geo_at Kv1.out) | (go_at_call 21; refine (half21 g _ _).mono ?_; rintro e v2 ⟨rfl, hbv2⟩; have Kv2 := Lib.hid ((hbv2.block w.heap.size (heap_lt Kv1.out)).trans Kv1.out); have Cv2 := Lib.hid ((hbv2.block gb (heap_lt Cv1.out)).trans Cv1.out); obtain ⟨xv20, xv21, xv22, xv23, xv24⟩ := geo_at Kv2.out) | (go_at_call 26; have _t := tok5; refine (cover26 M gb (fun j : Nat => decide ((j : Int) < 2 ∨ (2 ≤ (j : Int) ∧ (j : Int) < 2 + g.J) ∨ (2 + 2 * g.J ≤ (j : Int) ∧ (j : Int) < 2 + 2 * g.J + 2 * pagesN g))) (fun j : Nat => decide ((j : Int) < 2 + 2 * g.J + 2 * pagesN g)) _ _ _ ?_ ?_ ?_ ?_ ?_ ?_ Cv2.out).mono ?_; (· go_must (omega)); (· go_must (omega)); (· go_must (omega)); (· go_must (omega)); (· intro j h1 h2; go_must ((try simp) <;> omega)); (· intro j hj; rw [Bool.eq_iff_iff]; go_must ((try simp) <;> omega)); rintro e v3 ⟨rfl, hbv3, hcv3⟩; have Kv3 := Lib.hid ((hbv3.block w.heap.size hlt).trans Kv2.out); have Cv3 := Lib.hid hcv3; clear hcv3 tok5; obtain ⟨xv30, xv31, xv32, xv33, xv34⟩ := geo_at Kv3.out) | (go_at_call 23; refine (area23 g _ _).mono ?_; rintro e v4 ⟨rfl, hbv4⟩; have Kv4 := Lib.hid ((hbv4.block w.heap.size (heap_lt Kv3.out)).trans Kv3.out); have Cv4 := Lib.hid ((hbv4.block gb (heap_lt Cv3.out)).trans Cv3.out); obtain ⟨xv40, xv41, xv42, xv43, xv44⟩ := geo_at Kv4.out) | (go_at_call 17; refine (pages17 g _).mono ?_; rintro e v5 ⟨rfl, hbv5⟩; have Kv5 := Lib.hid ((hbv5.block w.heap.size (heap_lt Kv4.out)).trans Kv4.out); have Cv5 := Lib.hid ((hbv5.block gb (heap_lt Cv4.out)).trans Cv4.out); obtain ⟨xv50, xv51, xv52, xv53, xv54⟩ := geo_at Kv5.out) | (go_at_call 26; have _t := tok6; refine (cover26 M gb (fun j : Nat => decide ((j : Int) < 2 + 2 * g.J + 2 * pagesN g)) (fun j : Nat => decide ((j : Int) < 2 + 2 * g.J + 4 * pagesN g)) _ _ _ ?_ ?_ ?_ ?_ ?_ ?_ Cv5.out).mono ?_; (· go_must (omega)); (· go_must (omega)); (· go_must (omega)); (· go_must (omega)); (· intro j h1 h2; go_must ((try simp) <;> omega)); (· intro j hj; rw [Bool.eq_iff_iff]; go_must ((try simp) <;> omega)); rintro e v6 ⟨rfl, hbv6, hcv6⟩; have Kv6 := Lib.hid ((hbv6.block w.heap.size hlt).trans Kv5.out); have Cv6 := Lib.hid hcv6; clear hcv6 tok6; obtain ⟨xv60, xv61, xv62, xv63, xv64⟩ := geo_at Kv6.out))
    go_wp2_with fail
    rw [rounds_succ]
    go_wp2_with fail
    have hTu0 : Below w.heap.size w u0 := ((hbm).drew).trans (hbu0.mono (hbm).size)
    have hTu1 : Below w.heap.size w u1 := (hTu0).trans (hbu1.mono (Nat.le_of_lt hlt))
    have hTu2 : Below w.heap.size w u2 := (hTu1).trans (hbu2.mono (hTu1).size)
    have hTu3 : Below w.heap.size w u3 := (hTu2).trans (hbu3.mono (Nat.le_of_lt hlt))
    have hTu4 : Below w.heap.size w u4 := (hTu3).trans (hbu4.mono (hTu3).size)
    have hTu5 : Below w.heap.size w u5 := (hTu4).trans (hbu5.mono (hTu4).size)
    have hTu6 : Below w.heap.size w u6 := (hTu5).trans (hbu6.mono (Nat.le_of_lt hlt))
    have hTv0 : Below w.heap.size w v0 := ((hTu6).drew).trans (hbv0.mono (hTu6).size)
    have hTv1 : Below w.heap.size w v1 := (hTv0).trans (hbv1.mono (Nat.le_of_lt hlt))
    have hTv2 : Below w.heap.size w v2 := (hTv1).trans (hbv2.mono (hTv1).size)
    have hTv3 : Below w.heap.size w v3 := (hTv2).trans (hbv3.mono (Nat.le_of_lt hlt))
    have hTv4 : Below w.heap.size w v4 := (hTv3).trans (hbv4.mono (hTv3).size)
    have hTv5 : Below w.heap.size w v5 := (hTv4).trans (hbv5.mono (hTv4).size)
    have hTv6 : Below w.heap.size w v6 := (hTv5).trans (hbv6.mono (Nat.le_of_lt hlt))
    clear hbu0 hbu1 hbu2 hbu3 hbu4 hbu5 hbu6 hbv0 hbv1 hbv2 hbv3 hbv4 hbv5 hbv6 hTu0 hTu1 hTu2 hTu3 hTu4 hTu5 hTu6 hTv0 hTv1 hTv2 hTv3 hTv4 hTv5 hbm
    clear xu00 xu01 xu02 xu03 xu04 xu10 xu11 xu12 xu13 xu14 xu20 xu21 xu22 xu23 xu24 xu30 xu31 xu32 xu33 xu34 xu40 xu41 xu42 xu43 xu44 xu50 xu51 xu52 xu53 xu54 xu60 xu61 xu62 xu63 xu64 xv00 xv01 xv02 xv03 xv04 xv10 xv11 xv12 xv13 xv14 xv20 xv21 xv22 xv23 xv24 xv30 xv31 xv32 xv33 xv34 xv40 xv41 xv42 xv43 xv44 xv50 xv51 xv52 xv53 xv54 xv60 xv61 xv62 xv63 xv64 e0 e1 e2 e3 e4
    have CA := Lib.hid Cv6.out
    have KA := Lib.hid Kv6.out
    clear x1 x2 x3 x4 x5 x6 x7 x8
    obtain ⟨ws, hws⟩ : ∃ ws, v6 = ws := ⟨_, rfl⟩
    rw [hws] at CA KA hTv6 ⊢
    clear hws
    go_loopw [4, 6] (fun o i wr => ∃ k : Nat, (k : Int) ≤ g.S ∧ i = .int .i64 k ∧ o = .bool true ∧ Below w.heap.size w wr ∧ wr.heap[w.heap.size]? = some (.cells (gcs g) 24 (0, 0)) ∧
        wr.heap[gb]? = some (.cells (bcs M (fun j : Nat => decide ((j : Int) < 2 + 2 * g.J + 4 * pagesN g + k * g.G))) 4 (0, 0))) (fun _ i _ => g.S.toNat - (intOf i).toNat)
    case atStart =>
      refine ⟨0, by omega, rfl, rfl, hTv6, KA.out, ?_⟩
      rw [CA.out]
      congr 2
      refine bcs_ext (bcs_size _ _) (fun j hj => ?_)
      rw [bcs_at hj]
      congr 3
      simp
    case round =>
      obtain ⟨k, hk, rfl, rfl, hBr, hbox, hbits⟩ := hrel
      have KR := Lib.hid hbox
      have CR := Lib.hid hbits
      obtain ⟨r0, r1, r2, r3, r4⟩ := geo_at KR.out
      clear hbox hbits
      by_cases hl : (k : Int) < g.S
      · have hm := seg_bd hf (k := k) (by omega) hl
        have x9 : segV g k = 2 + 2 * g.J + 4 * pagesN g + k * g.G := by simp [segV, h, hl]
        have hMk : 2 + 2 * g.J + 4 * pagesN g + (k * g.G + g.G) ≤ (M : Int) := by have := HMM.out; omega
        have hx : ((k + 1 : Nat) : Int) * g.G = k * g.G + g.G := by rw [Int.natCast_add, Int.add_mul]; simp
        have HX := Lib.hid hx
        clear hx
        go_wp2_with fail
        go_region_held3 (fun w' => w'.cell? ⟨w.heap.size, 0, none⟩ = some (.int .i64 g.V) ∧ w'.cell? ⟨w.heap.size, 1, none⟩ = some (.int .i64 g.S) ∧ w'.cell? ⟨w.heap.size, 2, none⟩ = some (.int .i64 g.G) ∧ w'.cell? ⟨w.heap.size, 3, none⟩ = some (.int .i64 g.U) ∧ w'.cell? ⟨w.heap.size, 4, none⟩ = some (.int .i64 g.J)) (go_keep)
          (first | (go_at_call 15; refine (seg15 g _ _).mono ?_; rintro e y0 ⟨rfl, hy0⟩; have KY := Lib.hid ((hy0.block w.heap.size (heap_lt KR.out)).trans KR.out); have CY := Lib.hid ((hy0.block gb (heap_lt CR.out)).trans CR.out); obtain ⟨p0, p1, p2, p3, p4⟩ := geo_at KY.out) | (go_at_call 26; refine (cover26 M gb (fun j : Nat => decide ((j : Int) < 2 + 2 * g.J + 4 * pagesN g + k * g.G)) (fun j : Nat => decide ((j : Int) < 2 + 2 * g.J + 4 * pagesN g + (k + 1 : Nat) * g.G)) _ _ _ ?_ ?_ ?_ ?_ ?_ ?_ CY.out).mono ?_; (· omega); (· omega); (· omega); (· omega); (· intro j h1 h2; (try simp) <;> omega); (· intro j hj; rw [Bool.eq_iff_iff, HX.out]; (try simp) <;> omega); rintro e y1 ⟨rfl, hy1, hcy⟩; have KZ := Lib.hid ((hy1.block w.heap.size hlt).trans KY.out); have CZ := Lib.hid hcy; clear hcy; obtain ⟨s0, s1, s2, s3, s4⟩ := geo_at KZ.out))
        have hBz : Below w.heap.size w y1 := ((hBr.drew).trans (hy0.mono hBr.size)).trans (hy1.mono (Nat.le_of_lt hlt))
        go_wp2_with fail
        go_roundw
        case rel => exact ⟨k + 1, by omega, by go_num, rfl, hBz, KZ.out, CZ.out⟩
        case measure => simp [intOf]; omega
      · have hk2 : (k : Int) = g.S := by omega
        have hall : ∀ j, j < M → wr.cell? ⟨gb, j, none⟩ = some (.bool true) := fun j hj => block_cell CR.out j _ (by
          rw [bcs_at hj]
          congr 2
          have := HMM.out
          rw [hk2]
          simp; omega)
        have HALL := Lib.hid hall
        have d1 : decide ((k : Int) < g.S) = false := by simp; omega
        clear hall hk2
        go_wp2_with fail
        go_loopw [4, 7] (fun o i wx => ∃ q : Nat, q ≤ M ∧ i = .int .i64 q ∧ o = .bool true ∧ wx = wr) (fun _ i _ => M - (intOf i).toNat)
        case atStart => exact ⟨0, by omega, rfl, rfl, rfl⟩
        case round =>
          obtain ⟨q, hq, rfl, rfl, rfl⟩ := hrel
          by_cases hl2 : q < M
          · have hcq := HALL.out q hl2
            go_wp2_with fail
            go_roundw
            case rel => exact ⟨q + 1, by omega, by go_num, rfl, by trivial⟩
            case measure => simp [intOf]; omega
          · obtain rfl : q = M := by omega
            go_wp2_with fail
            go_ret
            exact ⟨rfl, hBr⟩
  · have h2 : rightB g = false := by simpa using h
    have p1 : totalV g = 0 := by simp [totalV, h]
    have p2 : pagesV g = 0 := by simp [pagesV, h]
    have P1 := Lib.hid p1
    have P2 := Lib.hid p2
    clear h p1 p2
    go_enter Try.func6, Try.ntmps6
    go_wp2_with fail
    refine (awake7 _).mono ?_
    rintro e w1 ⟨rfl, hb1⟩
    have hz1 := Nat.lt_of_lt_of_le hz0 hb1.size
    have K1 := Lib.hid ((hb1.block (w.heap.size) hz0).trans K0.out)
    have hT1 : Below w.heap.size w w1 := hT0.trans (hb1.mono hT0.size)
    clear e0 e1 e2 e3 e4 hb1
    obtain ⟨e0, e1, e2, e3, e4⟩ := geo_at K1.out
    go_wp2_with fail
    refine (right10f g _ h2).mono ?_
    rintro e w2 ⟨rfl, hb2⟩
    have hz2 := Nat.lt_of_lt_of_le hz1 hb2.size
    have K2 := Lib.hid ((hb2.block (w.heap.size) hz1).trans K1.out)
    have hT2 : Below w.heap.size w w2 := hT1.trans (hb2.mono hT1.size)
    clear e0 e1 e2 e3 e4 hb2
    obtain ⟨e0, e1, e2, e3, e4⟩ := geo_at K2.out
    go_wp2_with fail
    refine (sectors12 g _).mono ?_
    rintro e w3 ⟨rfl, hb3⟩
    have hz3 := Nat.lt_of_lt_of_le hz2 hb3.size
    have K3 := Lib.hid ((hb3.block (w.heap.size) hz2).trans K2.out)
    have hT3 : Below w.heap.size w w3 := hT2.trans (hb3.mono hT2.size)
    clear e0 e1 e2 e3 e4 hb3
    obtain ⟨e0, e1, e2, e3, e4⟩ := geo_at K3.out
    rw [P1.out]
    go_wp2_with fail
    refine (pages17 g _).mono ?_
    rintro e w4 ⟨rfl, hb4⟩
    have hz4 := Nat.lt_of_lt_of_le hz3 hb4.size
    have K4 := Lib.hid ((hb4.block (w.heap.size) hz3).trans K3.out)
    have hT4 : Below w.heap.size w w4 := hT3.trans (hb4.mono hT3.size)
    clear e0 e1 e2 e3 e4 hb4
    obtain ⟨e0, e1, e2, e3, e4⟩ := geo_at K4.out
    rw [P2.out]
    go_wp2_with fail
    go_ret
    exact ⟨rfl, hT4⟩
end Go.Proofs.Ytlkbghjeclicmaa
