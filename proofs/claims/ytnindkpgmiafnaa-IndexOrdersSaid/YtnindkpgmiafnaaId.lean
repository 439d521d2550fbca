/- Layer 22 (index): the program's Items: the map is gone through, what was met is sorted by keys. -/
import Derived.Test.YtnindkpgmiafnaaIc
import Derived.Test.YtnindkpgmiafnaaSp
import Derived.Lib.BytesEntry
import Derived.Laws.Externs
import Derived.LoopN
namespace Go.Proofs.Ytnindkpgmiafnaa
open Go.RowKit Go.Maps Go.WideMaps Go.Sort
theorem range_of {w : World} {b : Nat} {cs : List Value} {t : TypeId} {z : Nat × Nat} (h : w.heap[b]? = some (.cells cs.toArray t z)) : w.rangeAt b 0 cs := fun j v hj => block_cell h _ v (by rw [Nat.zero_add]; simpa using hj)
theorem len32 : ∀ (l : List Int), l.length = 32 → ∃ a0 a1 a2 a3 a4 a5 a6 a7 a8 a9 a10 a11 a12 a13 a14 a15 a16 a17 a18 a19 a20 a21 a22 a23 a24 a25 a26 a27 a28 a29 a30 a31, l = [a0, a1, a2, a3, a4, a5, a6, a7, a8, a9, a10, a11, a12, a13, a14, a15, a16, a17, a18, a19, a20, a21, a22, a23, a24, a25, a26, a27, a28, a29, a30, a31] := by
  intro l h
  match l, h with
  | [a0, a1, a2, a3, a4, a5, a6, a7, a8, a9, a10, a11, a12, a13, a14, a15, a16, a17, a18, a19, a20, a21, a22, a23, a24, a25, a26, a27, a28, a29, a30, a31], _ => exact ⟨a0, a1, a2, a3, a4, a5, a6, a7, a8, a9, a10, a11, a12, a13, a14, a15, a16, a17, a18, a19, a20, a21, a22, a23, a24, a25, a26, a27, a28, a29, a30, a31, rfl⟩
theorem run_compareBytes {P : Program} (xs ys : List Int) (A B : Addr) (c d : Nat) (w : World) (hx : ∀ j x, xs[j]? = some x → w.cell? (A.add j) = some (.int .u8 x)) (hy : ∀ j x, ys[j]? = some x → w.cell? (B.add j) = some (.int .u8 x)) :
    (Extern.BytealgCompare.compare #[.slice (some A) xs.length c, .slice (some B) ys.length d]).run P w = .ok (.int .i64 (Lib.compareBytes (Lib.bytesOf xs) (Lib.bytesOf ys))) w := by
  have h1 : (Extern.Bytes.bytesOf (.slice (some A) xs.length c)).run P w = .ok ⟨(Lib.bytesOf xs).toArray⟩ w := by
    have := Lib.run_loadBytesX (P := P) (w := w) xs A .empty hx
    simpa [Extern.Bytes.bytesOf] using this
  have h2 : (Extern.Bytes.bytesOf (.slice (some B) ys.length d)).run P w = .ok ⟨(Lib.bytesOf ys).toArray⟩ w := by
    have := Lib.run_loadBytesX (P := P) (w := w) ys B .empty hy
    simpa [Extern.Bytes.bytesOf] using this
  change Sem.run P (do pure (goInt (Extern.BytealgCompare.cmp (← Extern.Bytes.bytesOf (.slice (some A) xs.length c)) (← Extern.Bytes.bytesOf (.slice (some B) ys.length d))))) w = _
  simp only [Sem.run_bind, h1, h2, Result.andThen_ok, Sem.run_pure]
  rw [Lib.cmp_eq]
  rfl
set_option maxRecDepth 100000 in
theorem compare31 (xs ys : List Int) (A B : Addr) (c d : Nat) (w : World) (hx : ∀ j x, xs[j]? = some x → w.cell? (A.add j) = some (.int .u8 x)) (hy : ∀ j x, ys[j]? = some x → w.cell? (B.add j) = some (.int .u8 x)) :
    Calls Try.prog 25 #[.slice (some A) xs.length c, .slice (some B) ys.length d] w fun e w' => e = .returned (.int .i64 (Lib.compareBytes (Lib.bytesOf xs) (Lib.bytesOf ys))) ∧ w = w' := by
  have HR := Lib.hid (run_compareBytes (P := Try.prog) xs ys A B c d w hx hy)
  clear hx hy
  go_enter Try.func25, Try.ntmps25
  go_wp2_with fail
  rw [run_callFunc_extern Try.func35 (by kernel_rfl) (by kernel_rfl) (by kernel_rfl) (e := Extern.BytealgCompare.compare) (by kernel_rfl), HR.out]
  simp only [Result.andThen]
  rw [Oper.upon_value]
  go_wp2_with fail
  go_ret
  exact ⟨rfl, rfl⟩
theorem buildItE (e : Ent) (u : World) : BuildRun Try.prog 43 #[(0, .int .u8 1), (1, kv e.k), (2, plv e.p)] u (.agg (cellsIt (itE e)).toArray) := by
  obtain ⟨⟨k, p⟩, hk, hp⟩ := e
  obtain ⟨a0, a1, a2, a3, a4, a5, a6, a7, a8, a9, a10, a11, a12, a13, a14, a15, a16, a17, a18, a19, a20, a21, a22, a23, a24, a25, a26, a27, a28, a29, a30, a31, rfl⟩ := len32 k hk.len
  exact ⟨by kernel_rfl⟩
theorem itE_key (e : Ent) (j : Nat) (v : Int) (hj : e.k[j]? = some v) : (cellsIt (itE e)).toArray[1 + j]? = some (.int .u8 v) := by
  have hl := (List.getElem?_eq_some_iff.1 hj).1
  rw [List.getElem?_toArray]
  show ([Value.int .u8 1] ++ (u8l e.k ++ _))[1 + j]? = _
  rw [List.getElem?_append_right (by simp)]
  simp only [List.length_cons, List.length_nil, Nat.zero_add, Nat.add_sub_cancel_left]
  rw [List.getElem?_append_left (by rw [u8l_len]; exact hl), u8l, List.getElem?_map, hj]; rfl
set_option maxRecDepth 100000 in
theorem closure24 (x y : Ent) (W : World) : Calls Try.prog 24 #[.agg (cellsIt (itE x)).toArray, .agg (cellsIt (itE y)).toArray] W fun e w' => e = .returned (.int .i64 (cmpL x.k y.k)) ∧ ∃ q os', w' = grow (W.drewN q) os' := by
  obtain ⟨a, ha⟩ : ∃ a, a = (cellsIt (itE x)).toArray := ⟨_, rfl⟩
  obtain ⟨b, hb⟩ : ∃ b, b = (cellsIt (itE y)).toArray := ⟨_, rfl⟩
  rw [← ha, ← hb]
  have HA := Lib.hid ha
  have HB := Lib.hid hb
  clear ha hb
  go_enter Try.func24, Try.ntmps24
  go_wp2_with fail
  obtain ⟨w2, hw2⟩ : ∃ w2, w2 = (W.alloc (.cells a 43)).alloc (.cells b 43) := ⟨_, rfl⟩
  rw [← hw2]
  have HC : Hid (∀ m, Calls Try.prog 25 #[.slice (some ⟨W.heap.size, 1, none⟩) 32 32, .slice (some ⟨W.heap.size + 1, 1, none⟩) 32 32] (w2.drewN m) fun e w' => e = .returned (.int .i64 (cmpL x.k y.k)) ∧ w2.drewN m = w') := Lib.hid fun m => by
    have h1 : w2.heap[W.heap.size]? = some (.cells a 43) := by rw [hw2]; exact heap_old (heap_new W _)
    have h2 : w2.heap[W.heap.size + 1]? = some (.cells b 43) := by rw [hw2]; exact heap_new_at _ (by simp)
    have h := compare31 x.k y.k ⟨W.heap.size, 1, none⟩ ⟨W.heap.size + 1, 1, none⟩ 32 32 (w2.drewN m) (fun j v hj => by
      have := block_cell h1 (1 + j) (.int .u8 v) (by rw [HA.out]; exact itE_key x j v hj)
      rw [Go.WideShapes.add_plain]; exact this) (fun j v hj => by
      have := block_cell h2 (1 + j) (.int .u8 v) (by rw [HB.out]; exact itE_key y j v hj)
      rw [Go.WideShapes.add_plain]; exact this)
    rw [x.key.len, y.key.len, cmpL_bytes _ _ x.key.lo y.key.lo] at h
    exact h
  have HW : Hid (∀ q, w2.drewN q = grow (W.drewN q) (#[.cells a 43] ++ #[.cells b 43])) := Lib.hid fun q => by
    rw [hw2, alloc_eq_grow, alloc_eq_grow, grow_grow]; rfl
  clear hw2
  go_quiet ((go_at_call 25; exact quiet_left (HC.out _)))
  go_wp2_with fail
  go_ret
  exact ⟨rfl, _, _, HW.out _⟩
theorem swoE : SWO (ltOf fun x y : Ent => cmpL x.k y.k) where
  irrefl x := kLt_irrefl x.k
  trans x y z h1 h2 := kLt_trans (a := x.k) (b := y.k) (c := z.k) h1 h2
  ntrans x y z h1 h2 := kLt_ntrans (a := x.k) (b := y.k) (c := z.k) h1 h2
theorem permList {α : Type} [Inhabited α] {d d' : Array α} (h : PermIn 0 d.size d d') : d'.toList.Perm d.toList := by
  have h2 := h.2.2
  have e1 : d.extract 0 d.size = d := by simp
  have e2 : d'.extract 0 d.size = d' := by rw [← h.1]; simp
  rwa [e1, e2] at h2
theorem sort23 (D : Array Ent) (v : Value) (base : Nat) (w : World) (hn : D.size ≤ 1099511627776) (ho : w.ownsRow base 43 73 v D.size (flatS (fun i => cellsIt (itE D[i]!)) D.size)) :
    Calls Try.prog 23 #[v, .func (.func 24) #[] #[]] w fun e w' => e = .returned (.tuple #[]) ∧ ∃ d : Array Ent, d.toList.Perm D.toList ∧ d.size = D.size ∧ (∀ i j, i < j → j < d.size → kLt d[j]!.k d[i]!.k = false) ∧
      w'.ownsRow base 43 73 v d.size (flatS (fun i => cellsIt (itE d[i]!)) d.size) ∧ Keeps (fun x => v.ownBlock = some x) w w' := by
  obtain ⟨A, c, rfl⟩ := row_shapeS ho
  by_cases h0 : D.size = 0
  · have h := AnyF.slices_SortFunc_none (P := Try.prog) (ρ := sortIt_ren) { sortIt with } A c (.func (.func 24) #[] #[]) w
    rw [h0] at ho ⊢
    refine h.mono fun e w' ⟨he, hw⟩ => ⟨he, D, List.Perm.refl _, h0, fun i j _ h => absurd h (by omega), by rw [h0]; exact hw ▸ ho, hw ▸ Keeps.refl _ _⟩
  · obtain ⟨g, rfl⟩ := row_someS ho (by have := row_le_capS ho; omega)
    have eg : ∀ args w, (callFunc 24 args).run Try.prog w = .ok (.enter 24 args) w := enters_of Try.func24 (by kernel_rfl) rfl
    have hH := holdsK_row (enc := fun e : Ent => cellsIt (itE e)) (d := D) itE_len rfl ho
    have h := AnyQ.slices_SortFunc sortIt 73 Try.isAgg43 Try.sizeOf43 (fun e : Ent => cellsIt (itE e)) itE_len itE_one (fun x y : Ent => cmpL x.k y.k) swoE 24 #[] g 0 c D w eg (fun _ _ _ _ x y => closure24 x y _) hH (row_lt ho (k := g) rfl).2 (by omega)
    change Calls Try.prog 23 _ _ _ at h
    refine h.mono fun e w' ⟨he, d, m, os, hp, hs, hw⟩ => ⟨he, d, permList hp, hp.1, fun i j hij hj => hs i j (Nat.zero_le _) hij (by rw [← hp.1]; exact hj), ?_⟩
    have hr := sorted_row (enc := fun e : Ent => cellsIt (itE e)) (m := m) (os := os) (d' := d) itE_len hp.1 ho
    rw [hw, hp.1]
    exact ⟨hr.1, hr.2.mono fun x _ hx => by rw [hx]; rfl⟩
/-- What was met, all of it, sorted, is the row. -/
theorem sorted_is {R : List Ent} (hr : Rise R) {D d : Array Ent} (hm : ∀ e ∈ D.toList, e ∈ R) (hn : (D.toList.map Ent.k).Nodup) (ha : ∀ e ∈ R, e.k ∈ D.toList.map Ent.k) (hp : d.toList.Perm D.toList) (hs : ∀ i j, i < j → j < d.size → kLt d[j]!.k d[i]!.k = false) : d.toList = R := by
  refine rises_ext ?_ hr fun c => ⟨fun hc => hm c (hp.mem_iff.1 hc), fun hc => ?_⟩
  · unfold Rise
    rw [List.pairwise_iff_getElem]
    intro i j hi hj hij
    have h1 : i < d.size := by simpa using hi
    have h2 : j < d.size := by simpa using hj
    have h3 := hs i j hij h2
    rw [getElem!_pos d i h1, getElem!_pos d j h2] at h3
    cases h : kLt d.toList[i].k d.toList[j].k with
    | true => rfl
    | false =>
      have e := kLt_total h (by simpa using h3)
      have hn2 := (hp.map Ent.k).nodup_iff.2 hn
      have h4 := (List.pairwise_iff_getElem.1 (List.nodup_iff_pairwise_ne.1 hn2)) i j (by simpa using hi) (by simpa using hj) hij
      rw [List.getElem_map, List.getElem_map] at h4
      exact absurd (by simpa using e) h4
  · obtain ⟨f, hf, e⟩ := List.mem_map.1 (ha c hc)
    rw [← rise_inj hr (hm f hf) hc e]
    exact hp.mem_iff.2 hf
theorem flatE_push (D : Array Ent) (c : Ent) : flatS (fun i => cellsIt (itE D[i]!)) D.size ++ cellsIt (itE c) = flatS (fun i => cellsIt (itE (D.push c)[i]!)) (D.push c).size := by
  rw [Array.size_push, flatS]
  have e1 : (D.push c)[D.size]! = c := by simp
  rw [e1, flatS_congr (G := fun i => cellsIt (itE (D.push c)[i]!)) fun j hj => by
    rw [getElem!_pos D j hj, getElem!_pos (D.push c) j (by simp; omega), Array.getElem_push_lt hj]]
theorem flatE_list {d : Array Ent} {R : List Ent} (h : d.toList = R) : flatS (fun i => cellsIt (itE d[i]!)) d.size = flatS (fun i => cellsIt (itE R[i]!)) R.length ∧ d.size = R.length := by
  subst h
  refine ⟨?_, by simp⟩
  have e : d.toList.length = d.size := by simp
  rw [e]
  exact flatS_congr fun j hj => by rw [getElem!_pos d j hj, getElem!_pos d.toList j (by simpa using hj)]; simp
/-- The row that Items gives. -/
def RowOf (R : List Ent) (base : Nat) (e : Ending) (w' : World) : Prop := ∃ v, e = .returned v ∧ w'.ownsRow base 43 73 v R.length (flatS (fun i => cellsIt (itE R[i]!)) R.length)
theorem sortFin (p B r c cnt : Nat) (R : List Ent) (w wr : World) (met : List (List Int × Value)) (D : Array Ent) (v : Value) (hc : R.length ≤ 1000000000) (hr : Rise R) (hD : D.toList.map Ent.k = met.map Prod.fst) (hm : ∀ e ∈ D.toList, e ∈ R)
    (ho : wr.ownsRow (w.heap.size + 1) 43 73 v D.size (flatS (fun i => cellsIt (itE D[i]!)) D.size)) (hg : GmR Try.prog wr keyT (fun _ => True) B r R.length (valL R) met cnt) (hb : Below w.heap.size w wr)
    (hall : ∀ ks v, KeyOk 32 ks → valL R ks = some v → ks ∈ met.map Prod.fst) :
    Calls Try.prog 23 #[v, .func (.func 24) #[] #[]] wr fun e w' => e = .returned (.tuple #[]) ∧ RowOf R w.heap.size (.returned v) w' ∧ Below w.heap.size w w' := by
  have hlen : D.size = met.length := by have := congrArg List.length hD; simpa using this
  have hle := hg.all
  refine (sort23 D v (w.heap.size + 1) wr (by omega) ho).mono ?_
  rintro e w4 ⟨he, d, hp, hsz, hs, hd, hkp⟩
  have hdR := sorted_is hr hm (by rw [hD]; exact hg.nodup) (fun e he => by
    rw [hD]
    refine hall e.k (plv e.p) e.key ?_
    unfold valL
    rw [look_of_mem hr he]; rfl) hp hs
  obtain ⟨e1, e2⟩ := flatE_list hdR
  rw [e1, e2] at hd
  exact ⟨he, ⟨v, rfl, row_more hd (Nat.le_succ _)⟩, hb.trans (hkp.below (B := w.heap.size) (fun x hx => Nat.le_of_succ_le (row_lt ho hx).1) hb.size)⟩
set_option maxRecDepth 100000 in
set_option maxHeartbeats 4000000 in
theorem items11 (p B : Nat) (R : List Ent) (w : World) (h : Ix w p B R) (hn : R.length ≤ 1000000000) : Calls Try.prog 11 #[.pointer (some ⟨p, 0, none⟩)] w fun e w' => RowOf R w.heap.size e w' ∧ Below w.heap.size w w' := by
  have HX := Lib.hid h
  have HRI := Lib.hid h.rise
  have c0 := h.at0
  clear h
  obtain ⟨i0, hi, hz0, hz1, hz2⟩ := infoParts infoIt
  have HI := Lib.hid (And.intro hi (And.intro hz0 (And.intro hz1 hz2)))
  clear hi hz0 hz1 hz2
  go_enter Try.func11, Try.ntmps11
  go_wp2_with fail
  refine (there21 p B w c0).mono ?_
  rintro e _ ⟨rfl, rfl⟩
  go_wp2_with (at_range; refine wpList_gm_range (T := keyT) rfl (.tmp 12) 54 28 rfl HX.out.map Try.underlying54 rfl ?_; intro w1 hr1 hb1 hs1)
  obtain ⟨r, hr⟩ : ∃ r, r = w.heap.size := ⟨_, rfl⟩
  rw [← hr] at hr1 ⊢
  have HR1 := Lib.hid hr1
  have HB1 := Lib.hid hb1
  have HRE := Lib.hid hr
  have HBR : Hid (B < w.heap.size) := Lib.hid HX.out.lt.2
  clear hr1 hb1 hs1 hr HX c0
  go_frame
  go_loopw [3] (fun v wr => ∃ (met : List (List Int × Value)) (cnt : Nat) (D : Array Ent), D.toList.map Ent.k = met.map Prod.fst ∧ (∀ e ∈ D.toList, e ∈ R) ∧ wr.ownsRow (w.heap.size + 1) 43 73 v D.size (flatS (fun i => cellsIt (itE D[i]!)) D.size) ∧ GmR Try.prog wr keyT (fun _ => True) B r R.length (valL R) met cnt ∧ Below w.heap.size w wr) (fun _ wr => wr.rangeLeft B r)
  case atStart => exact ⟨[], _, #[], rfl, (fun e he => by simp at he), World.ownsRow_nil _ _ _ _, HR1.out, HB1.out⟩
  case round =>
    clear HR1 HB1
    obtain ⟨met, cnt, D, hD, hm, hrow, hrg, hbw⟩ := hrel
    have HD := Lib.hid hD
    have HME := Lib.hid hm
    have HRW := Lib.hid hrow
    have HRG := Lib.hid hrg
    have HB := Lib.hid hbw
    have HML := Lib.hid hrg.left_eq
    obtain ⟨vA, vc, rfl⟩ := row_shapeS hrow
    clear hD hm hrow hrg hbw
    go_wp2_with (at_next; refine wpList_gm_next rfl (.tmp 13) rfl HRG.out rfl ?_ ?_)
    · intro h0 hdone
      have HF := Lib.hid (sortFin p B r R.length cnt R w wr met D _ hn HRI.out HD.out HME.out HRW.out HRG.out HB.out (fun ks v h1 h2 => by have := hdone ks v h1 h2; simpa using this))
      clear hdone h0
      go_wp2_with fail
      refine HF.out.mono ?_
      rintro e w4 ⟨rfl, hO⟩
      have HO := Lib.hid hO
      clear hO HF
      go_wp2_with fail
      go_ret
      exact ⟨HO.out.1, HO.out.2⟩
    · intro ks v w2 cnt2 hks hLv hrg2 hlt hgr hsz2 hen
      have hks : KeyOk 32 ks := hks
      have hlk : ∃ q, lookR ks R = some q ∧ v = plv q := by
        unfold valL at hLv
        cases hL : lookR ks R with
        | none => rw [hL] at hLv; cases hLv
        | some q => rw [hL] at hLv; exact ⟨q, rfl, (Option.some.inj hLv).symm⟩
      obtain ⟨q, hq, rfl⟩ := hlk
      obtain ⟨en, hmem, hek, hep⟩ := look_mem hq
      have HEM := Lib.hid hmem
      have HEK := Lib.hid hek
      have HEP := Lib.hid hep
      have HE : Hid ((Instr.entry (.pointer (some ⟨r, 0, none⟩))).run Try.prog w2 = .ok (.tuple #[kv ks, plv q]) w2) := Lib.hid hen
      have HR2 := Lib.hid hrg2
      have HLT := Lib.hid hlt
      have HB2 : Hid (Below w.heap.size w w2) := Lib.hid (HB.out.grown hgr HB.out.size (fun k e => by injection e with e; have := HRE.out; omega))
      have HRW2 : Hid (w2.ownsRow (w.heap.size + 1) 43 73 (.slice vA D.size vc) D.size (flatS (fun i => cellsIt (itE D[i]!)) D.size)) := Lib.hid ((Keeps.grown hgr (S := fun x => x = r) (fun k e => by injection e with e; exact e.symm)).row HRW.out (fun k hk => by have := (row_lt HRW.out hk).1; have := HRE.out; omega))
      have HSN : Hid (D.size + 1 ≤ 1000000001) := Lib.hid (by
        have e1 : D.size = met.length := by have := congrArg List.length HD.out; simpa using this
        have := HRG.out.all
        omega)
      have HKL : Hid ((u8l ks).length = 32) := Lib.hid (by rw [u8l_len, hks.len])
      have HK32 : Hid ((Try.prog.info? 26).map (·.size) = some (u8l ks).length) := Lib.hid (by rw [HKL.out]; exact infoKey)
      have HP4 : Hid ((Try.prog.info? 28).map (·.size) = some (plc q).length) := Lib.hid sizePl
      have HCB : Hid (∀ u, BuildRun Try.prog 43 #[(0, .int .u8 1), (1, .agg (u8l ks).toArray), (2, .agg (plc q).toArray)] u (.agg (cellsIt (itE en)).toArray)) := Lib.hid fun u => by have := buildItE en u; rw [HEK.out, HEP.out] at this; exact this
      have HCL : Hid ((cellsIt (itE en)).length = 73) := Lib.hid (itE_len en)
      have HC1 := Lib.hid (itE_one en)
      have HFP : Hid (flatS (fun i => cellsIt (itE D[i]!)) D.size ++ cellsIt (itE en) = flatS (fun i => cellsIt (itE (D.push en)[i]!)) (D.size + 1)) := Lib.hid (by have := flatE_push D en; rwa [Array.size_push] at this)
      have HDP : Hid ((D.push en).toList.map Ent.k = (met ++ [(ks, plv q)]).map Prod.fst) := Lib.hid (by rw [List.map_append, ← HD.out]; simp [HEK.out])
      have HMP : Hid (∀ e ∈ (D.push en).toList, e ∈ R) := Lib.hid fun e he => by
        rw [Array.toList_push] at he
        rcases List.mem_append.1 he with he | he
        · exact HME.out e he
        · rw [List.mem_singleton.1 he]; exact HEM.out
      obtain ⟨cs', hcs'⟩ : ∃ cs', cs' = cellsIt (itE en) := ⟨_, rfl⟩
      rw [← hcs'] at HCB HCL HC1 HFP
      obtain ⟨D', hD'⟩ : ∃ D', D' = D.push en := ⟨_, rfl⟩
      rw [← hD'] at HFP HDP HMP
      have HDS : Hid (D'.size = D.size + 1) := Lib.hid (by rw [hD']; simp)
      clear hks hLv hrg2 hlt hgr hsz2 hen hcs' hD' HRG HB HRW hq hmem hek hep HEM HEK HEP
      have HZK : Hid (zK.length = (u8l ks).length) := Lib.hid (by rw [HKL.out]; rfl)
      have HK1 := Lib.hid (u8l_one ks)
      have HP1 : Hid (∀ v ∈ plc q, v.oneCell' = true) := Lib.hid (by intro v hv; simp [plc] at hv; rcases hv with rfl | rfl | rfl | rfl <;> rfl)
      obtain ⟨b4, hb4⟩ : ∃ b4, b4 = w2.heap.size := ⟨_, rfl⟩
      obtain ⟨w3, hw3⟩ : ∃ w3, w3 = w2.alloc (.cells zK.toArray 26) := ⟨_, rfl⟩
      obtain ⟨b5, hb5⟩ : ∃ b5, b5 = w3.heap.size := ⟨_, rfl⟩
      obtain ⟨w4, hw4⟩ : ∃ w4, w4 = w3.alloc (.cells (plc ⟨0, 0, 0, 0⟩).toArray 28) := ⟨_, rfl⟩
      have hne : b5 = b4 + 1 := by rw [hb5, hw3, hb4]; simp
      have M4 : Hid (w4.heap[b4]? = some (.cells zK.toArray 26 (0, 0))) := Lib.hid (by rw [hw4, hw3, hb4]; exact heap_old (heap_new w2 _))
      have M5 : Hid (w4.heap[b5]? = some (.cells (plc ⟨0, 0, 0, 0⟩).toArray 28 (0, 0))) := Lib.hid (by rw [hw4, hb5]; exact heap_new w3 _)
      have B24 : Hid (Below w2.heap.size w2 w4) := Lib.hid (by rw [hw4, hw3]; exact ((Below.refl _ _).alloc (Nat.le_refl _) _).alloc (by simp) _)
      go_upto_region 6 with fail
      go_step
      refine wpList_entryG rfl (.tmp 13) rfl _ HE.out ?_
      try simp only [Act.put, List.setIfInBounds_toArray, List.set_cons_zero, List.set_cons_succ]
      repeat ((fail_if_success (refine wpList_laid rfl 26 rfl zK (zeroVK _) ?_)); go_step)
      refine wpList_laid rfl 26 rfl zK (zeroVK _) ?_
      try simp only [Act.put, List.setIfInBounds_toArray, List.set_cons_zero, List.set_cons_succ]
      rw [← hw3, ← hb4]
      refine wpList_laid rfl 28 rfl (plc ⟨0, 0, 0, 0⟩) (zeroVPl _) ?_
      try simp only [Act.put, List.setIfInBounds_toArray, List.set_cons_zero, List.set_cons_succ]
      rw [← hw4, ← hb5]
      refine wpList_store_segK rfl 26 (.tmp 4) (.tmp 17) rfl b4 0 rfl (u8l ks) rfl zK 26 M4.out HK32.out (by rw [HZK.out]; omega) HK1.out rfl ?_
      intro w5 h5 k5 s5
      rw [splice_whole _ _ HZK.out] at h5
      have M55 : Hid (w5.heap[b5]? = some (.cells (plc ⟨0, 0, 0, 0⟩).toArray 28 (0, 0))) := Lib.hid (k5.heap M5.out (by omega))
      try simp only [Act.put, List.setIfInBounds_toArray, List.set_cons_zero, List.set_cons_succ]
      refine wpList_store_segK rfl 28 (.tmp 5) (.tmp 18) rfl b5 0 rfl (plc q) rfl (plc ⟨0, 0, 0, 0⟩) 28 M55.out HP4.out (Nat.le_refl _) HP1.out rfl ?_
      intro w6 h6 k6 s6
      rw [splice_whole (plc ⟨0, 0, 0, 0⟩) (plc q) rfl] at h6
      try simp only [Act.put, List.setIfInBounds_toArray, List.set_cons_zero, List.set_cons_succ]
      have hgeb : w2.heap.size ≤ b4 := Nat.le_of_eq hb4.symm
      have B26 : Hid (Below w2.heap.size w2 w6) := Lib.hid ((B24.out.trans (k5.below (fun z hz => by rw [hz]; exact hgeb) B24.out.size)).trans (k6.below (fun z hz => by rw [hz]; omega) (by rw [s5]; exact B24.out.size)))
      have R4 : Hid (w6.rangeAt b4 0 (u8l ks)) := Lib.hid (range_of (k6.heap h5 (by omega)))
      have R5 : Hid (w6.rangeAt b5 0 (plc q)) := Lib.hid (range_of h6)
      have HB3 : Hid (Below w.heap.size w w6) := Lib.hid (HB2.out.trans (B26.out.mono HB2.out.size))
      have HRW3 : Hid (w6.ownsRow (w.heap.size + 1) 43 73 (.slice vA D.size vc) D.size (flatS (fun i => cellsIt (itE D[i]!)) D.size)) := Lib.hid ((Keeps.fresh (S := fun _ => False) B26.out).row HRW2.out (fun _ _ h => h))
      have HR3 : Hid (GmR Try.prog w6 keyT (fun _ => True) B r R.length (valL R) (met ++ [(ks, plv q)]) cnt2) := Lib.hid (HR2.out.keeps (B26.out.block _ (HR2.out.lt.1)) (B26.out.block _ (HR2.out.lt.2)))
      have HBS : Hid (w.heap.size + 1 ≤ w6.heap.size) := Lib.hid (by have := HB2.out.size; have := B26.out.size; have := HR2.out.lt.2; have := HRE.out; omega)
      clear h5 k5 s5 h6 k6 s6 M4 M5 M55 B24 hw3 hw4 hb4 hb5 hne hgeb HB2 HRW2 HR2 B26
      go_upto_region 7 with fail
      go_step
      repeat ((fail_if_success (refine wpList_load_midG rfl 26 (.tmp 4) rfl b4 0 rfl (u8l ks) _ R4.out Try.underlying26 rfl HK32.out ?_)); go_step)
      refine wpList_load_midG rfl 26 (.tmp 4) rfl b4 0 rfl (u8l ks) _ R4.out Try.underlying26 rfl HK32.out ?_
      try simp only [Act.put, List.setIfInBounds_toArray, List.set_cons_zero, List.set_cons_succ]
      refine wpList_load_midG rfl 28 (.tmp 5) rfl b5 0 rfl (plc q) _ R5.out Try.underlying28 rfl HP4.out ?_
      try simp only [Act.put, List.setIfInBounds_toArray, List.set_cons_zero, List.set_cons_succ]
      refine wpList_buildG rfl 43 [(0, .const (.int .u8 1)), (1, .tmp 20), (2, .tmp 21)] rfl [(0, .int .u8 1), (1, .agg (u8l ks).toArray), (2, .agg (plc q).toArray)] rfl _ (HCB.out _) ?_
      try simp only [Act.put, List.setIfInBounds_toArray, List.set_cons_zero, List.set_cons_succ]
      refine wpList_slice1 rfl 36 43 (.tmp 22) rfl cs' rfl i0 (.agg zIt.toArray) Try.underlying36 HI.out.1 HI.out.2.1 (by rw [HCL.out]; exact HI.out.2.2.1) (by rw [HCL.out]; omega) (by rw [HCL.out]; omega) ?_
      try simp only [Act.put, List.setIfInBounds_toArray, List.set_cons_zero, List.set_cons_succ]
      refine wpList_append_own _ rfl (.tmp 19) (.tmp 23) 36 rfl (w.heap.size + 1) 43 i0 (.agg zIt.toArray) 73 136 Try.underlying36 HI.out.1 HI.out.2.1 HI.out.2.2.1 HI.out.2.2.2 rfl (by decide) _ D.size (flatS (fun i => cellsIt (itE D[i]!)) D.size) rfl (HRW3.out.alloc _) ⟨w6.heap.size, 0, none⟩ 1 1 cs' rfl (by rw [HCL.out]) (fun j u hj => by rw [Go.WideShapes.add_plain, Nat.zero_add]; exact block_cell (heap_new w6 _) j u (by simpa using hj)) HC1.out (by have := HSN.out; unfold maxLen; omega) (by have := HSN.out; omega) (by have := HBS.out; simp; omega) ?_
      intro v5 w7 hown5 hg5 hv5
      try simp only [Act.put, List.setIfInBounds_toArray, List.set_cons_zero, List.set_cons_succ]
      have HROW5 : Hid (w7.ownsRow (w.heap.size + 1) 43 73 v5 D'.size (flatS (fun i => cellsIt (itE D'[i]!)) D'.size)) := Lib.hid (by rw [HDS.out, ← HFP.out]; exact hown5)
      have HAL : Below w6.heap.size w6 (w6.alloc (.cells cs'.toArray 43)) := (Below.refl _ _).alloc (Nat.le_refl _) _
      have HB5 : Hid (Below w.heap.size w w7) := Lib.hid ((HB3.out.trans (HAL.mono HB3.out.size)).grown hg5 (by have := HB3.out.size; simp; omega) (fun k hk => Nat.le_of_succ_le (row_lt HRW3.out hk).1))
      have HNE : ∀ z, z < w.heap.size + 1 → w7.heap[z]? = w6.heap[z]? := fun z hz => by
        have h1 := HBS.out
        rw [hg5.block z (by simp; omega) (fun e => by have := (row_lt HRW3.out e.symm).1; omega)]
        exact Below.heap_alloc _ _ _ (by omega)
      have HR5 : Hid (GmR Try.prog w7 keyT (fun _ => True) B r R.length (valL R) (met ++ [(ks, plv q)]) cnt2) := Lib.hid (HR3.out.keeps (HNE _ (by have := HBR.out; omega)) (HNE _ (by have := HRE.out; omega)))
      clear hown5 hg5 hv5 HAL HNE
      go_wp2_with fail
      go_roundw
      case rel => exact ⟨_, cnt2, D', HDP.out, HMP.out, HROW5.out, HR5.out, HB5.out⟩
      case measure => rw [HR5.out.left_eq, HML.out]; exact HLT.out
end Go.Proofs.Ytnindkpgmiafnaa
