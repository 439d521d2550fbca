/- The document's space (layer 19): how it lies in memory; Counts, frees, Free. No condition but where it lies. -/
import Derived.Test.YtgoblbmekhcekaaI
namespace Go.Proofs.Ytgoblbmekhcekaa
open Go.RowKit
/-- A row of Booleans in a block of Z. -/
def Fr (w : World) (Z : Nat → Prop) (v : Value) (fr : List Bool) : Prop := ∃ q cap, v = .slice (some ⟨q, 0, none⟩) fr.length cap ∧ Z q ∧ q < w.heap.size ∧ ∀ j u, fr[j]? = some u → w.cell? ⟨q, j, none⟩ = some (.bool u)
theorem Fr.keeps {w w' : World} {S Z : Nat → Prop} {v : Value} {fr : List Bool} (h : Fr w Z v fr) (hk : Keeps S w w') (hZ : ∀ k, Z k → ¬ S k) : Fr w' Z v fr := by
  obtain ⟨q, cap, h1, h2, h3, h4⟩ := h
  exact ⟨q, cap, h1, h2, Nat.lt_of_lt_of_le h3 hk.size, fun j u hj => hk.cell (h4 j u hj) (hZ q h2)⟩
theorem Fr.mono {w : World} {Z Z' : Nat → Prop} {v : Value} {fr : List Bool} (h : Fr w Z v fr) (hZ : ∀ k, Z k → k < w.heap.size → Z' k) : Fr w Z' v fr := by
  obtain ⟨q, cap, h1, h2, h3, h4⟩ := h
  exact ⟨q, cap, h1, hZ q h2 h3, h3, h4⟩
/-- The cells of the document's space. -/
def rfC (g : Geo) (fv : Value) (n : Nw) (wv : Value) : List Value := [.int .i64 g.V, .int .i64 g.S, .int .i64 g.G, .int .i64 g.U, .int .i64 g.J, fv, .int .i64 n.op, .int .i64 n.fl, wv]
def wsC (g : Geo) (ws : List (Value × Nw)) : List Value := ws.flatMap fun p => rfC g p.1 p.2 (.slice none 0 0)
theorem wsC_len (g : Geo) : ∀ ws : List (Value × Nw), (wsC g ws).length = ws.length * 9
  | [] => rfl
  | p :: ws => by
    have := wsC_len g ws
    simp only [wsC, List.flatMap_cons, List.length_append, List.length_cons] at this ⊢
    rw [this]; simp [rfC]; omega
theorem wsC_app (g : Geo) (a b : List (Value × Nw)) : wsC g (a ++ b) = wsC g a ++ wsC g b := by simp [wsC]
/-- The document's space, in blocks of Y. -/
structure Rf (w : World) (Y : Nat → Prop) (b : Nat) (g : Geo) (n : Nw) (was : List Nw) (fv row : Value) (ws : List (Value × Nw)) : Prop where
  blk : w.heap[b]? = some (.cells (rfC g fv n row).toArray 53 (0, 0))
  own : w.ownsRow 0 53 9 row ws.length (wsC g ws)
  apart : row.ownBlock ≠ some b
  yb : Y b
  yr : ∀ k, row.ownBlock = some k → Y k
  fr : Fr w (fun k => Y k ∧ k ≠ b ∧ row.ownBlock ≠ some k) fv n.fr
  frs : ∀ p ∈ ws, Fr w (fun k => Y k ∧ k ≠ b ∧ row.ownBlock ≠ some k) p.1 p.2.fr
  eq : ws.map (·.2) = was
  ok : n.Ok g
  okw : ∀ m ∈ was, m.Ok g
  right : rightB g = true
theorem Rf.keeps {w w' : World} {Y S : Nat → Prop} {b : Nat} {g : Geo} {n : Nw} {was : List Nw} {fv row : Value} {ws : List (Value × Nw)} (h : Rf w Y b g n was fv row ws) (hk : Keeps S w w') (hY : ∀ k, Y k → ¬ S k) : Rf w' Y b g n was fv row ws :=
  ⟨hk.heap h.blk (hY b h.yb), hk.row h.own (fun k e => hY k (h.yr k e)), h.apart, h.yb, h.yr, h.fr.keeps hk (fun k e => hY k e.1), fun p hp => (h.frs p hp).keeps hk (fun k e => hY k e.1), h.eq, h.ok, h.okw, h.right⟩
theorem Rf.go {w w' : World} {Y : Nat → Prop} {b : Nat} {g : Geo} {n : Nw} {was : List Nw} {fv row : Value} {ws : List (Value × Nw)} (h : Rf w Y b g n was fv row ws) (hb : Below w.heap.size w w') : Rf w' Y b g n was fv row ws :=
  h.keeps (S := fun _ => False) (Keeps.fresh hb) (fun _ _ h => h)
theorem Rf.mono {w : World} {Y Y' : Nat → Prop} {b : Nat} {g : Geo} {n : Nw} {was : List Nw} {fv row : Value} {ws : List (Value × Nw)} (h : Rf w Y b g n was fv row ws) (hY : ∀ k, Y k → k < w.heap.size → Y' k) : Rf w Y' b g n was fv row ws :=
  ⟨h.blk, h.own, h.apart, hY b h.yb (heap_lt h.blk), fun k e => hY k (h.yr k e) (h.own.lt k e).2, h.fr.mono fun k hk hl => ⟨hY k hk.1 hl, hk.2⟩, fun p hp => (h.frs p hp).mono fun k hk hl => ⟨hY k hk.1 hl, hk.2⟩, h.eq, h.ok, h.okw, h.right⟩
theorem Rf.fine {w : World} {Y : Nat → Prop} {b : Nat} {g : Geo} {n : Nw} {was : List Nw} {fv row : Value} {ws : List (Value × Nw)} (h : Rf w Y b g n was fv row ws) : Fine g := fine_right h.right
theorem Rf.len {w : World} {Y : Nat → Prop} {b : Nat} {g : Geo} {n : Nw} {was : List Nw} {fv row : Value} {ws : List (Value × Nw)} (h : Rf w Y b g n was fv row ws) : ws.length = was.length := by rw [← h.eq, List.length_map]
theorem rf_cells {w : World} {b : Nat} {g : Geo} {fv : Value} {n : Nw} {row : Value} {t : TypeId} {z : Nat × Nat} (h : w.heap[b]? = some (.cells (rfC g fv n row).toArray t z)) :
    w.cell? ⟨b, 0, none⟩ = some (.int .i64 g.V) ∧ w.cell? ⟨b, 1, none⟩ = some (.int .i64 g.S) ∧ w.cell? ⟨b, 2, none⟩ = some (.int .i64 g.G) ∧ w.cell? ⟨b, 3, none⟩ = some (.int .i64 g.U) ∧ w.cell? ⟨b, 4, none⟩ = some (.int .i64 g.J) ∧
    w.cell? ⟨b, 5, none⟩ = some fv ∧ w.cell? ⟨b, 6, none⟩ = some (.int .i64 n.op) ∧ w.cell? ⟨b, 7, none⟩ = some (.int .i64 n.fl) ∧ w.cell? ⟨b, 8, none⟩ = some row :=
  ⟨block_cell h 0 _ rfl, block_cell h 1 _ rfl, block_cell h 2 _ rfl, block_cell h 3 _ rfl, block_cell h 4 _ rfl, block_cell h 5 _ rfl, block_cell h 6 _ rfl, block_cell h 7 _ rfl, block_cell h 8 _ rfl⟩
theorem take_count (l : List Bool) (k : Nat) (h : k < l.length) : (l.take (k + 1)).count true = (l.take k).count true + if l[k] then 1 else 0 := by
  rw [List.take_add_one, List.getElem?_eq_getElem h, Option.toList_some, List.count_append]
  cases l[k] <;> rfl
set_option maxRecDepth 100000 in
set_option maxHeartbeats 1000000 in
theorem rfree25 (w : World) (Y : Nat → Prop) (b : Nat) (g : Geo) (n : Nw) (was : List Nw) (fv row : Value) (ws : List (Value × Nw)) (h : Rf w Y b g n was fv row ws) : Calls Try.prog 25 #[.pointer (some ⟨b, 0, none⟩)] w fun e w' => e = .returned (.int .i64 (n.fr.count true : Nat)) ∧ w = w' := by
  obtain ⟨c0, c1, c2, c3, c4, c5, c6, c7, c8⟩ := rf_cells h.blk
  obtain ⟨q, cap, rfl, -, -, hc⟩ := h.fr
  have hle : n.fr.length ≤ 256 := h.ok.le h.fine
  obtain ⟨L, hL⟩ : ∃ L, L = n.fr.length := ⟨_, rfl⟩
  have HC := Lib.hid (And.intro hc hL)
  rw [← hL] at c5 hle
  clear h hc hL c0 c1 c2 c3 c4 c6 c7 c8
  go_enter Try.func25, Try.ntmps25
  go_wp2
  go_loop [3, 4] (fun m i => ∃ k : Nat, k ≤ L ∧ i = .int .i64 k ∧ m = .int .i64 ((n.fr.take k).count true : Nat)) (fun _ i => L - (intOf i).toNat)
  case atStart => exact ⟨0, Nat.zero_le _, rfl, rfl⟩
  case round =>
    obtain ⟨k, hk, rfl, rfl⟩ := hrel
    by_cases hlt : k < L
    · have hkl : k < n.fr.length := by have := HC.out.2; omega
      have hck : w.cell? ⟨q, k, none⟩ = some (.bool n.fr[k]) := HC.out.1 k _ (List.getElem?_eq_getElem hkl)
      have hcl : (n.fr.take k).count true ≤ k := Nat.le_trans List.count_le_length (List.length_take_le _ _)
      obtain ⟨x, hx⟩ : ∃ x, x = n.fr[k] := ⟨_, rfl⟩
      obtain ⟨z, hz⟩ : ∃ z, z = (n.fr.take k).count true := ⟨_, rfl⟩
      have HS : Hid ((n.fr.take (k + 1)).count true = z + if x then 1 else 0) := Lib.hid (by rw [hx, hz]; exact take_count n.fr k hkl)
      rw [← hx] at hck
      rw [← hz] at hcl ⊢
      clear hx hz hkl
      cases x
      · go_wp2
        go_round
        case rel => exact ⟨k + 1, by omega, by go_num, by rw [HS.out]; rfl⟩
        case measure => simp [intOf]; omega
      · go_wp2
        go_round
        case rel => exact ⟨k + 1, by omega, by go_num, by rw [HS.out]; go_num⟩
        case measure => simp [intOf]; omega
    · obtain rfl : k = L := by omega
      go_wp2
      go_ret
      exact ⟨ret_int (by rw [HC.out.2, List.take_length]), rfl⟩
theorem info4 : (Try.prog.info? 4).map (fun i => (i.zero, i.size, i.bytes)) = some (some (.bool false), 1, 1) := by kernel_rfl
def FreesPost (w : World) (l : List Bool) (e : Ending) (w' : World) : Prop := ∃ v, e = .returned v ∧ Fr w' (fun k => w.heap.size ≤ k) v l ∧ Below w.heap.size w w'
theorem freesL_step (f : Nat → Int) (op : Int) {n k : Nat} (h : k < n) : ((freesL f op n).take (k + 1)).map Value.bool = ((freesL f op n).take k).map Value.bool ++ [.bool (!(decide (0 < f k) || decide ((k : Int) = op)))] := by
  rw [List.take_add_one, freesL_at f op h, Option.toList_some, List.map_append]; rfl
set_option maxRecDepth 100000 in
set_option maxHeartbeats 2000000 in
theorem frees38 (f : Nat → Int) (op : Int) (A : Option Addr) (n c : Nat) (w : World) (hn : n ≤ 100000) (h0 : 0 < n) (ha : Arr w w.heap.size A n fun j => .int .i64 (f j)) (hf : ∀ j, j < n → 0 ≤ f j) :
    Calls Try.prog 38 #[.slice A n c, .int .i64 op] w (FreesPost w (freesL f op n)) := by
  have HA := Lib.hid ha
  have HF := Lib.hid hf
  obtain ⟨i0, hi, hz0, hz1, hz2⟩ := infoParts info4
  have HI := Lib.hid (And.intro hi (And.intro hz0 (And.intro hz1 hz2)))
  clear ha hf hi hz0 hz1 hz2
  go_enter Try.func38, Try.ntmps38
  go_wp2
  go_loopw [5, 6] (fun v i wr => ∃ k : Nat, k ≤ n ∧ i = .int .i64 k ∧ wr.ownsRow w.heap.size 4 1 v k (((freesL f op n).take k).map .bool) ∧ Below w.heap.size w wr) (fun _ i _ => n - (intOf i).toNat)
  case atStart => exact ⟨0, Nat.zero_le _, rfl, ⟨rfl, .inl ⟨rfl, rfl⟩⟩, Below.refl _ _⟩
  case round =>
    obtain ⟨k, hk, rfl, hown, hb⟩ := hrel
    have HO := Lib.hid (And.intro hown hb)
    clear hown hb
    by_cases hlt : k < n
    · obtain ⟨b, off, rfl, hbl, hc⟩ := HA.out (by omega)
      have hck : wr.cell? ⟨b, off + k, none⟩ = some (.int .i64 (f k)) := (HO.out.2.cell (p := ⟨b, off + k, none⟩) hbl).trans (hc k hlt)
      have hfk := HF.out k hlt
      have HST := Lib.hid (freesL_step f op hlt)
      obtain ⟨x, hx⟩ : ∃ x, x = f k := ⟨_, rfl⟩
      rw [← hx] at hck hfk HST
      have hsz := HO.out.2.size
      clear hc hx
      by_cases hx0 : x = 0
      · have d0 : (x == 0) = true := by simpa using hx0
        by_cases hko : (k : Int) = op
        · have d1 : ((k : Int) != op) = false := by simpa using hko
          have HV : Hid ((!(decide (0 < x) || decide ((k : Int) = op))) = false) := Lib.hid (by simp [hko])
          clear hx0 hko
          go_wp2_with (at_builtin; refine wpList_append_lies _ rfl (.tmp 13) (.tmp 24) 50 rfl w.heap.size 4 i0 (.bool false) 1 1 Try.underlying50 HI.out.1 HI.out.2.1 HI.out.2.2.1 HI.out.2.2.2 rfl (by omega) u5 k _ rfl (HO.out.1.alloc _) ⟨wr.heap.size, 0, none⟩ 1 1 [.bool false] rfl rfl (cell_one_new _ _ _) (by simp [Value.oneCell']) (by omega) (by unfold maxLen; omega) (by omega) (by simp; omega) _ rfl ?_; intro g2 cap w5 hown hgr hat2 hlt2)
          have H5 := Lib.hid (And.intro hown hgr)
          clear hown hgr hat2 hlt2
          go_roundw
          case rel => exact ⟨k + 1, by omega, by go_num, by rw [HST.out, HV.out]; exact H5.out.1, (HO.out.2.alloc hsz _).grown H5.out.2 (by simp; omega) fun k e => (HO.out.1.lt k e).1⟩
          case measure => simp [intOf]; omega
        · have d1 : ((k : Int) != op) = true := by simpa using hko
          have HV : Hid ((!(decide (0 < x) || decide ((k : Int) = op))) = true) := Lib.hid (by simp [hko, hx0])
          clear hx0 hko
          go_wp2_with (at_builtin; refine wpList_append_lies _ rfl (.tmp 13) (.tmp 24) 50 rfl w.heap.size 4 i0 (.bool false) 1 1 Try.underlying50 HI.out.1 HI.out.2.1 HI.out.2.2.1 HI.out.2.2.2 rfl (by omega) u5 k _ rfl (HO.out.1.alloc _) ⟨wr.heap.size, 0, none⟩ 1 1 [.bool true] rfl rfl (cell_one_new _ _ _) (by simp [Value.oneCell']) (by omega) (by unfold maxLen; omega) (by omega) (by simp; omega) _ rfl ?_; intro g2 cap w5 hown hgr hat2 hlt2)
          have H5 := Lib.hid (And.intro hown hgr)
          clear hown hgr hat2 hlt2
          go_roundw
          case rel => exact ⟨k + 1, by omega, by go_num, by rw [HST.out, HV.out]; exact H5.out.1, (HO.out.2.alloc hsz _).grown H5.out.2 (by simp; omega) fun k e => (HO.out.1.lt k e).1⟩
          case measure => simp [intOf]; omega
      · have d0 : (x == 0) = false := by simpa using hx0
        have HV : Hid ((!(decide (0 < x) || decide ((k : Int) = op))) = false) := Lib.hid (by
          have : 0 < x := by omega
          simp [this])
        clear hx0
        go_wp2_with (at_builtin; refine wpList_append_lies _ rfl (.tmp 13) (.tmp 24) 50 rfl w.heap.size 4 i0 (.bool false) 1 1 Try.underlying50 HI.out.1 HI.out.2.1 HI.out.2.2.1 HI.out.2.2.2 rfl (by omega) u5 k _ rfl (HO.out.1.alloc _) ⟨wr.heap.size, 0, none⟩ 1 1 [.bool false] rfl rfl (cell_one_new _ _ _) (by simp [Value.oneCell']) (by omega) (by unfold maxLen; omega) (by omega) (by simp; omega) _ rfl ?_; intro g2 cap w5 hown hgr hat2 hlt2)
        have H5 := Lib.hid (And.intro hown hgr)
        clear hown hgr hat2 hlt2
        go_roundw
        case rel => exact ⟨k + 1, by omega, by go_num, by rw [HST.out, HV.out]; exact H5.out.1, (HO.out.2.alloc hsz _).grown H5.out.2 (by simp; omega) fun k e => (HO.out.1.lt k e).1⟩
        case measure => simp [intOf]; omega
    · obtain rfl : n = k := by omega
      go_wp2
      go_ret
      have ho := HO.out.1
      rw [List.take_of_length_le (by rw [freesL_len]; omega)] at ho
      have ho2 := ho
      rcases ho.2 with ⟨_, h1⟩ | ⟨q, cap, cur, rfl, h2, h3, h4, h5, h6, h7⟩
      · omega
      · refine ⟨.slice (some ⟨q, 0, none⟩) n cap, rfl, ⟨q, cap, by rw [freesL_len], h2, heap_lt h3, fun j u hj => ?_⟩, HO.out.2⟩
        have hj2 : j < n := by have := (List.getElem?_eq_some_iff.1 hj).1; rwa [freesL_len] at this
        rw [World.ownsRow.cellAt ho2 j (by omega), List.getElem?_map, hj]; rfl
set_option maxRecDepth 100000 in
set_option maxHeartbeats 2000000 in
theorem counts37 (g : Geo) (f : Nat → Int) (A : Option Addr) (n c : Nat) (w : World) (hn : n ≤ 140737488351232) (ha : Arr w w.heap.size A n fun j => .int .i64 (f j)) :
    Calls Try.prog 37 #[gv g, .slice A n c] w fun e w' => e = .returned (.bool (countsB g f n)) ∧ Below w.heap.size w w' := by
  have hB := Lib.hid ((Below.refl _ w).alloc (Nat.le_refl w.heap.size) (.cells (gcs g) 23))
  have HA := Lib.hid (ha.below hB.out (Nat.le_refl _))
  have K := Lib.hid (heap_new w (.cells (gcs g) 23))
  clear ha
  by_cases hs : (n : Int) = g.S
  · have R := Lib.hid (show countsB g f n = fineB g.G f n by simp [countsB, hs])
    have d : ((n : Int) != g.S) = false := by simpa using hs
    clear hs
    go_enter Try.func37, Try.ntmps37
    go_wp2_with fail
    obtain ⟨w1, hw1⟩ : ∃ w1, w1 = w.alloc (.cells (gcs g) 23) := ⟨_, rfl⟩
    rw [← hw1] at HA K hB ⊢
    obtain ⟨h, hh⟩ : ∃ h, h = w.heap.size := ⟨_, rfl⟩
    have K2 : Hid (w1.heap[h]? = some (.cells (gcs g) 23 (0, 0))) := Lib.hid (by rw [hh]; exact K.out)
    have HA2 : Hid (Arr w1 h A n fun j => .int .i64 (f j)) := Lib.hid (by rw [hh]; exact HA.out)
    rw [← hh]
    have HH := Lib.hid hh
    clear hw1 hh K HA
    go_loopw [5] (fun i wr => ∃ k m : Nat, k ≤ n ∧ i = .int .i64 k ∧ fineB g.G f k = true ∧ wr = w1.drewN m) (fun i _ => n - (intOf i).toNat)
    case atStart => exact ⟨0, 0, Nat.zero_le _, rfl, rfl, rfl⟩
    case round =>
      obtain ⟨k, m, hk, rfl, hfine, rfl⟩ := hrel
      have HFB := Lib.hid hfine
      clear hfine
      by_cases hlt : k < n
      · obtain ⟨b, off, rfl, hbl, hc⟩ := HA2.out (by omega)
        have hck : w1.cell? ⟨b, off + k, none⟩ = some (.int .i64 (f k)) := hc k hlt
        obtain ⟨x, hx⟩ : ∃ x, x = f k := ⟨_, rfl⟩
        rw [← hx] at hck
        have HX := Lib.hid hx
        have hG := block_cell K2.out 2 _ rfl
        have j0 : (0 : Int) ≤ k := by omega
        clear hc hx
        by_cases hx0 : x < 0
        · have HBad : Hid (badB g.G (f k) = true) := Lib.hid (by rw [← HX.out, badB]; simp [hx0])
          have d0 : decide (x < 0) = true := by simpa using hx0
          clear hx0
          go_wp2_with fail
          refine ws_region 13 (by kernel_rfl) (by kernel_rfl) ?_
          simp only [List.take_succ_cons, List.take_zero, List.drop_succ_cons, List.drop_zero]
          iterate 6 (refine WS.take (v := ?_) (by rfl) ?_ ?_; rotate_left; · (go_simp; try with_reducible rfl); try simp only [Act.put, List.setIfInBounds_toArray, List.set_cons_zero, List.set_cons_succ])
          iterate 7 (refine WS.skip (by kernel_rfl) ?_; try simp only [Act.put, List.setIfInBounds_toArray, List.set_cons_zero, List.set_cons_succ])
          refine WS.nil ?_
          go_wp2_with fail
          go_ret
          exact ⟨ret_bool (by rw [R.out, fineB_at hlt HBad.out]), below_drewN hB.out _⟩
        · have d0 : decide (x < 0) = false := by simpa using hx0
          by_cases hxG : g.G < x
          · have HBad : Hid (badB g.G (f k) = true) := Lib.hid (by rw [← HX.out, badB]; simp [hxG])
            have d1 : decide (g.G < x) = true := by simpa using hxG
            clear hx0 hxG
            go_wp2_with fail
            refine ws_region 13 (by kernel_rfl) (by kernel_rfl) ?_
            simp only [List.take_succ_cons, List.take_zero, List.drop_succ_cons, List.drop_zero]
            iterate 6 (refine WS.take (v := ?_) (by rfl) ?_ ?_; rotate_left; · (go_simp; try with_reducible rfl); try simp only [Act.put, List.setIfInBounds_toArray, List.set_cons_zero, List.set_cons_succ])
            iterate 7 (refine WS.take (v := ?_) (by kernel_rfl) ?_ ?_; rotate_left; · (go_simp; try with_reducible rfl); try simp only [Act.put, List.setIfInBounds_toArray, List.set_cons_zero, List.set_cons_succ])
            refine WS.nil ?_
            go_wp2_with fail
            go_ret
            exact ⟨ret_bool (by rw [R.out, fineB_at hlt HBad.out]), below_drewN hB.out _⟩
          · have HGood : Hid (badB g.G (f k) = false) := Lib.hid (by rw [← HX.out, badB]; simp [hxG, hx0])
            have d1 : decide (g.G < x) = false := by simpa using hxG
            clear hx0 hxG
            go_wp2_with fail
            refine ws_region 13 (by kernel_rfl) (by kernel_rfl) ?_
            simp only [List.take_succ_cons, List.take_zero, List.drop_succ_cons, List.drop_zero]
            iterate 6 (refine WS.take (v := ?_) (by rfl) ?_ ?_; rotate_left; · (go_simp; try with_reducible rfl); try simp only [Act.put, List.setIfInBounds_toArray, List.set_cons_zero, List.set_cons_succ])
            iterate 7 (refine WS.take (v := ?_) (by kernel_rfl) ?_ ?_; rotate_left; · (go_simp; try with_reducible rfl); try simp only [Act.put, List.setIfInBounds_toArray, List.set_cons_zero, List.set_cons_succ])
            refine WS.nil ?_
            go_wp2_with fail
            go_roundw
            case rel => exact ⟨k + 1, m + 1, by omega, by go_num, by rw [fineB, HFB.out, HGood.out]; rfl, rfl⟩
            case measure => simp [intOf]; omega
      · obtain rfl : k = n := by omega
        go_wp2_with fail
        go_ret
        exact ⟨ret_bool (by rw [R.out, HFB.out]), below_drewN hB.out _⟩
  · have R := Lib.hid (show countsB g f n = false by simp [countsB, hs])
    have d : ((n : Int) != g.S) = true := by simpa using hs
    clear hs
    go_enter Try.func37, Try.ntmps37
    go_wp2
    go_ret
    exact ⟨ret_bool R.out.symm, hB.out⟩
end Go.Proofs.Ytgoblbmekhcekaa
