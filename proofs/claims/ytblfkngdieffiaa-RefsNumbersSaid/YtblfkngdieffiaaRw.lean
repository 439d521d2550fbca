/- Layer 24 (refs): the sums' row. -/
import Derived.Test.YtblfkngdieffiaaRr
import Derived.Maps.RangeWalk
import Derived.LoopN
namespace Go.Proofs.Ytblfkngdieffiaa
open Go.RowKit Go.Maps Go.WideMaps
/-- A row of counts, in memory of the call's own. -/
def RowOut (cs : List Ct) (base n : Nat) (e : Ending) (w' : World) : Prop :=
  ∃ (D : Array ElC) (v : Value), e = .returned v ∧ IsRow cs (D.toList.map Subtype.val) ∧ D.size ≤ n ∧ w'.ownsRow base 45 33 v D.size (flatS (fun i => cellsC D[i]!) D.size)
def zK : List Value := List.replicate 32 (.int .u8 0)
theorem zeroVK (u : World) : (zeroValue 35).run Try.prog u = .ok (.agg zK.toArray) u := by kernel_rfl
theorem flat_push (D : Array ElC) (c : ElC) : flatS (fun i => cellsC D[i]!) D.size ++ cellsC c = flatS (fun i => cellsC (D.push c)[i]!) (D.push c).size := by
  rw [Array.size_push, flatS]
  have e1 : (D.push c)[D.size]! = c := by simp
  rw [e1, flatS_congr (G := fun i => cellsC (D.push c)[i]!) fun j hj => by
    rw [getElem!_pos D j hj, getElem!_pos (D.push c) j (by simp; omega), Array.getElem_push_lt hj]]
/-- What was met and is not 0. -/
def live (met : List (List Int × Int)) : List Ct := (met.filter fun p => decide (p.2 ≠ 0)).map fun p => ⟨p.1, p.2⟩
theorem live_yes {met : List (List Int × Int)} {k : List Int} {x : Int} (h : x ≠ 0) : live (met ++ [(k, x)]) = live met ++ [⟨k, x⟩] := by simp [live, h]
theorem live_no {met : List (List Int × Int)} {k : List Int} : live (met ++ [(k, 0)]) = live met := by simp [live]
theorem live_len (met : List (List Int × Int)) : (live met).length ≤ met.length := by
  unfold live
  rw [List.length_map]
  exact List.length_filter_le _ _
theorem live_row {cs : List Ct} {met : List (List Int × Int)} {d : Array ElC} (hk : ∀ p ∈ met, KeyOk 32 p.1 ∧ Lf cs p.1 = some p.2) (hn : (met.map Prod.fst).Nodup) (hall : ∀ ks v, KeyOk 32 ks → Lf cs ks = some v → ks ∈ met.map Prod.fst)
    (hp : (d.toList.map Subtype.val).Perm (live met)) (hs : ∀ i j, i < j → j < d.size → kLt d[j]!.1.k d[i]!.1.k = false) : IsRow cs (d.toList.map Subtype.val) := by
  refine sorted_row_is (fun c hc => ?_) (fun i j hi hj hij => ?_) ?_ (fun k x hx => ?_)
  · obtain ⟨e, _, rfl⟩ := List.mem_map.1 hc
    exact e.2.key
  · simp only [List.getElem_map, Array.getElem_toList]
    have h1 : i < d.size := by simpa using hi
    have h2 : j < d.size := by simpa using hj
    have := hs i j hij h2
    rwa [getElem!_pos d i h1, getElem!_pos d j h2] at this
  · have h1 : ((live met).map Ct.k).Nodup := by
      unfold live
      rw [List.map_map]
      have : (met.filter fun p => decide (p.2 ≠ 0)).map (Ct.k ∘ fun p => (⟨p.1, p.2⟩ : Ct)) = (met.filter fun p => decide (p.2 ≠ 0)).map Prod.fst := rfl
      rw [this]
      exact List.Sublist.nodup (List.Sublist.map _ List.filter_sublist) hn
    exact (hp.map Ct.k).nodup_iff.2 h1
  · rw [hp.mem_iff]
    unfold live
    simp only [List.mem_map, List.mem_filter, decide_eq_true_eq]
    constructor
    · rintro ⟨p, ⟨hp1, hp2⟩, e⟩
      injection e with e1 e2
      subst e1 e2
      have h3 := (hk p hp1).2
      unfold Lf at h3
      split at h3
      · injection h3 with h3
        exact ⟨h3.symm, hp2⟩
      · cases h3
    · rintro ⟨h1, h2⟩
      have hh : hasK cs k = true := by
        cases hc : hasK cs k with
        | true => rfl
        | false => rw [sumT_none hc, IntWalk.wrap64_in 0 (by omega)] at h1; exact absurd h1 h2
      have hL : Lf cs k = some x := by unfold Lf; rw [if_pos hh, h1]
      obtain ⟨p, hp1, hp2⟩ := List.mem_map.1 (hall k x hx hL)
      have h3 := (hk p hp1).2
      rw [hp2, hL] at h3
      injection h3 with h3
      exact ⟨p, ⟨hp1, by rw [← h3]; exact h2⟩, by rw [hp2, ← h3]⟩
theorem cells_at_new (w : World) (cs : List Value) (t : TypeId) : ∀ j u, cs[j]? = some u → (w.alloc (.cells cs.toArray t)).cell? ((⟨w.heap.size, 0, none⟩ : Addr).add j) = some u := fun j u hj => by
  rw [Go.WideShapes.add_plain, Nat.zero_add]
  exact block_cell (heap_new w _) j u (by simpa using hj)
/-- The row's end: a value that was returned. -/
def RowFin (cs : List Ct) (n : Nat) (v : Value) (w w' : World) : Prop := RowOut cs w.heap.size n (.returned v) w' ∧ Below w.heap.size w w'
theorem sortFin (cs : List Ct) (B r n : Nat) (w wr : World) (met : List (List Int × Int)) (cnt : Nat) (D : Array ElC) (v : Value) (hn : n ≤ 1000000000000) (hD : D.toList.map Subtype.val = live met)
    (ho : wr.ownsRow (w.heap.size + 1) 45 33 v D.size (flatS (fun i => cellsC D[i]!) D.size)) (hr : TmR Try.prog wr 35 3 32 B r n (Lf cs) met cnt) (hb : Below w.heap.size w wr)
    (hall : ∀ ks v, KeyOk 32 ks → Lf cs ks = some v → ks ∈ met.map Prod.fst) :
    Calls Try.prog 29 #[v, .func (.func 30) #[] #[]] wr fun e w' => e = .returned (.tuple #[]) ∧ RowFin cs n v w w' := by
  have hlen : D.size = (live met).length := by rw [← hD]; simp
  have hle := live_len met
  have hall2 := hr.all
  refine (sort29 D v (w.heap.size + 1) wr (by omega) ho).mono ?_
  rintro e w4 ⟨he, d, hp, hsz, hs, hd, hkp⟩
  refine ⟨he, ⟨d, v, rfl, live_row (fun p hp => ⟨(hr.keys p hp).1, (hr.keys p hp).2.1⟩) hr.nodup hall (by rw [← hD]; exact hp.map _) hs, by omega, row_more hd (Nat.le_succ _)⟩, ?_⟩
  exact hb.trans (hkp.below (B := w.heap.size) (fun x hx => Nat.le_of_succ_le (row_lt ho hx).1) hb.size)
set_option maxRecDepth 100000 in
set_option maxHeartbeats 4000000 in
theorem row23 (B n : Nat) (cs : List Ct) (w : World) (hn : n ≤ 1000000000000) (h : CountMap B n cs w) :
    Calls Try.prog 23 #[.map (some B)] w fun e w' => RowOut cs w.heap.size n e w' ∧ Below w.heap.size w w' := by
  have HT := Lib.hid h
  clear h
  obtain ⟨i0, hi, hz0, hz1, hz2⟩ := infoParts infoC
  have HI := Lib.hid (And.intro hi (And.intro hz0 (And.intro hz1 hz2)))
  clear hi hz0 hz1 hz2
  go_enter Try.func23, Try.ntmps23
  go_wp2_with (at_range; refine wpList_tm_range _ rfl (.tmp 6) 52 35 3 rfl HT.out keyedK Try.underlying52 rfl ?_; intro w1 cnt1 hr1 hb1 hs1)
  obtain ⟨r, hr⟩ : ∃ r, r = w.heap.size := ⟨_, rfl⟩
  rw [← hr] at hr1 ⊢
  have HR1 := Lib.hid hr1
  have HB1 := Lib.hid hb1
  have HRE := Lib.hid hr
  have HBR : Hid (B < w.heap.size) := Lib.hid (Tm.lt HT.out)
  clear hr1 hb1 hs1 hr HT
  go_frame
  go_loopw [3] (fun v wr => ∃ (met : List (List Int × Int)) (cnt : Nat) (D : Array ElC), D.toList.map Subtype.val = live met ∧ wr.ownsRow (w.heap.size + 1) 45 33 v D.size (flatS (fun i => cellsC D[i]!) D.size) ∧ TmR Try.prog wr 35 3 32 B r n (Lf cs) met cnt ∧ Below w.heap.size w wr) (fun _ wr => wr.rangeLeft B r)
  case atStart => exact ⟨[], cnt1, #[], rfl, World.ownsRow_nil _ _ _ _, HR1.out, HB1.out⟩
  case round =>
    clear HR1 HB1
    obtain ⟨met, cnt, D, hD, hrow, hrg, hbw⟩ := hrel
    have HD := Lib.hid hD
    have HRW := Lib.hid hrow
    have HRG := Lib.hid hrg
    have HB := Lib.hid hbw
    have HML := Lib.hid hrg.left_eq
    obtain ⟨vA, vc, rfl⟩ := row_shapeS hrow
    clear hD hrow hrg hbw
    go_wp2_with (at_next; refine wpList_tm_next _ rfl (.tmp 7) rfl 35 3 5 HRG.out arrK Try.underlying5 types_pos Try.underlying3 rfl ?_ ?_)
    · intro hdone
      have HF := Lib.hid (sortFin cs B r n w wr met cnt D _ hn HD.out HRW.out HRG.out HB.out (fun ks v h1 h2 => by have := hdone ks v h1 h2; simpa using this))
      clear hdone
      go_wp2_with fail
      refine HF.out.mono ?_
      rintro e w4 ⟨rfl, hO⟩
      have HO := Lib.hid hO
      clear hO HF
      go_wp2_with fail
      go_ret
      exact ⟨HO.out.1, HO.out.2⟩
    · intro ks x w2 cnt2 hks hwx hrg2 hlt hblk hgr hsz2 hen
      have HKO := Lib.hid hks
      have HE := Lib.hid hen
      have HR2 := Lib.hid hrg2
      have HLT := Lib.hid hlt
      have HB2 : Hid (Below w.heap.size w w2) := Lib.hid (HB.out.grown hgr HB.out.size (fun k e => by injection e with e; have := HRE.out; omega))
      have HRW2 : Hid (w2.ownsRow (w.heap.size + 1) 45 33 (.slice vA D.size vc) D.size (flatS (fun i => cellsC D[i]!) D.size)) := Lib.hid ((Keeps.grown hgr (S := fun x => x = r) (fun k e => by injection e with e; exact e.symm)).row HRW.out (fun k hk => by have := (row_lt HRW.out hk).1; have := HRE.out; omega))
      have HSN : Hid (D.size + 1 ≤ n) := Lib.hid (by
        have e1 : D.size = (live met).length := by rw [← HD.out]; simp
        have := live_len met
        have := hrg2.all
        simp at this
        omega)
      have HKL : Hid ((u8l ks).length = 32) := Lib.hid (by rw [u8l_len, hks.len])
      have HK32 : Hid ((Try.prog.info? 35).map (·.size) = some (u8l ks).length) := Lib.hid (by rw [HKL.out]; exact infoKey)
      have HK1 := Lib.hid (u8l_one ks)
      have HZL : Hid (zK.length = (u8l ks).length) := Lib.hid (by rw [HKL.out]; rfl)
      let c : ElC := ⟨⟨ks, x⟩, ⟨hks, hwx⟩⟩
      have HCB : Hid (∀ u, BuildRun Try.prog 45 #[(0, kv ks), (1, .int .i64 x)] u (.agg (cellsC c).toArray)) := Lib.hid fun u => buildCt ks hks x u
      have HCL : Hid ((cellsC c).length = 33) := Lib.hid (lenC c)
      have HC1 := Lib.hid (oneC c)
      have HFP : Hid (flatS (fun i => cellsC D[i]!) D.size ++ cellsC c = flatS (fun i => cellsC (D.push c)[i]!) (D.size + 1)) := Lib.hid (by have := flat_push D c; rwa [Array.size_push] at this)
      have HDP : Hid (x ≠ 0 → (D.push c).toList.map Subtype.val = live (met ++ [(ks, x)])) := Lib.hid fun h => by rw [live_yes h, ← HD.out]; simp [c]
      obtain ⟨cs', hcs'⟩ : ∃ cs', cs' = cellsC c := ⟨_, rfl⟩
      rw [← hcs'] at HCB HCL HC1 HFP
      obtain ⟨D', hD'⟩ : ∃ D', D' = D.push c := ⟨_, rfl⟩
      rw [← hD'] at HFP HDP
      have HDS : Hid (D'.size = D.size + 1) := Lib.hid (by rw [hD']; simp)
      clear hks hwx hrg2 hlt hblk hgr hsz2 hen hcs' hD' c HRG HB HRW
      go_upto_region 5 with (first | (refine wpList_entryG rfl (.tmp 7) rfl _ HE.out ?_) | (refine wpList_boxed rfl 35 4 rfl rfl zK (zeroVK _) (.tmp 11) rfl rfl rfl (u8l ks) rfl rfl HK32.out HZL.out HK1.out ?_; intro w3 hb3 hh3 hs3))
      have HB3 : Hid (Below w.heap.size w w3) := Lib.hid (HB2.out.trans (hb3.mono HB2.out.size))
      have HRW3 : Hid (w3.ownsRow (w.heap.size + 1) 45 33 (.slice vA D.size vc) D.size (flatS (fun i => cellsC D[i]!) D.size)) := Lib.hid ((Keeps.fresh (S := fun _ => False) hb3).row HRW2.out (fun _ _ h => h))
      have HR3 : Hid (TmR Try.prog w3 35 3 32 B r n (Lf cs) (met ++ [(ks, x)]) cnt2) := Lib.hid (HR2.out.keeps (hb3.block _ (HR2.out.lt.1)) (hb3.block _ (HR2.out.lt.2)))
      obtain ⟨b4, hb4⟩ : ∃ b4, b4 = w2.heap.size := ⟨_, rfl⟩
      rw [← hb4] at hh3 ⊢
      have R4 := Lib.hid (range_of hh3)
      have HBS : Hid (w.heap.size + 1 ≤ w3.heap.size) := Lib.hid (by have := HB2.out.size; omega)
      clear hb3 hh3 hs3 hb4 HB2 HRW2 HR2
      by_cases hx0 : x = 0
      · have HDN : Hid (D.toList.map Subtype.val = live (met ++ [(ks, x)])) := Lib.hid (by rw [hx0, live_no]; exact HD.out)
        subst hx0
        go_wp2_with fail
        go_roundw
        case rel => exact ⟨_, cnt2, D, HDN.out, HRW3.out, HR3.out, HB3.out⟩
        case measure => rw [HR3.out.left_eq, HML.out]; exact HLT.out
      · have HDN := Lib.hid (HDP.out hx0)
        have hne : (x != 0) = true := by simpa using hx0
        clear hx0
        go_wp2_with (first | (refine wpList_load_midG rfl 35 (.tmp 4) rfl b4 0 rfl (u8l ks) _ R4.out Try.underlying35 rfl HK32.out ?_) | (refine wpList_buildG rfl 45 [(0, .tmp 16), (1, .tmp 17)] rfl _ rfl _ (HCB.out _) ?_) | (refine wpList_slice1 rfl 25 45 (.tmp 18) rfl cs' rfl i0 (.agg zC.toArray) Try.underlying25 HI.out.1 HI.out.2.1 (by rw [HCL.out]; exact HI.out.2.2.1) (by rw [HCL.out]; omega) (by rw [HCL.out]; omega) ?_) | (at_builtin; refine wpList_append_own _ rfl _ _ 25 rfl (w.heap.size + 1) 45 i0 (.agg zC.toArray) 33 40 Try.underlying25 HI.out.1 HI.out.2.1 HI.out.2.2.1 HI.out.2.2.2 rfl (by decide) _ D.size (flatS (fun i => cellsC D[i]!) D.size) rfl (HRW3.out.alloc _) ⟨w3.heap.size, 0, none⟩ 1 1 cs' rfl (by rw [HCL.out]) (cells_at_new w3 cs' 45) HC1.out (by have := HSN.out; unfold maxLen; omega) (by have := HSN.out; omega) (by have := HBS.out; simp; omega) ?_; intro v5 w5 hown5 hg5 hv5))
        have HROW5 : Hid (w5.ownsRow (w.heap.size + 1) 45 33 v5 D'.size (flatS (fun i => cellsC D'[i]!) D'.size)) := Lib.hid (by rw [HDS.out, ← HFP.out]; exact hown5)
        have HAL : Below w3.heap.size w3 (w3.alloc (.cells cs'.toArray 45)) := (Below.refl _ _).alloc (Nat.le_refl _) _
        have HB5 : Hid (Below w.heap.size w w5) := Lib.hid ((HB3.out.trans (HAL.mono HB3.out.size)).grown hg5 (by have := HB3.out.size; simp; omega) (fun k hk => Nat.le_of_succ_le (row_lt HRW3.out hk).1))
        have HNE : ∀ z, z < w.heap.size + 1 → w5.heap[z]? = w3.heap[z]? := fun z hz => by
          have h1 := HBS.out
          rw [hg5.block z (by simp; omega) (fun e => by have := (row_lt HRW3.out e.symm).1; omega)]
          exact Below.heap_alloc _ _ _ (by omega)
        have HR5 : Hid (TmR Try.prog w5 35 3 32 B r n (Lf cs) (met ++ [(ks, x)]) cnt2) := Lib.hid (HR3.out.keeps (HNE _ (by have := HBR.out; omega)) (HNE _ (by have := HRE.out; omega)))
        clear hown5 hg5 hv5 HAL HNE
        go_wp2_with fail
        go_roundw
        case rel => exact ⟨_, cnt2, D', HDN.out, HROW5.out, HR5.out, HB5.out⟩
        case measure => rw [HR5.out.left_eq, HML.out]; exact HLT.out
end Go.Proofs.Ytblfkngdieffiaa
