/- bent (layer 14): an item with one field turned is an item. Printed by genU.py. -/
import Derived.Test.YtmckngkmlhemoaaT
namespace Go.Proofs.Ytmckngkmlhemoaa
open Go.RowKit
theorem splice_one {α : Type} (L : List α) (o : Nat) (v : α) (h : o < L.length) : splice L o [v] = L.set o v := by
  rw [splice, List.set_eq_take_append_cons_drop, if_pos h]
  simp

theorem set_pa (i : Itm) (ok : i.Ok) (v : Int) : splice i.cells 33 [.int .i64 v] = { i with pa := v }.cells := by
  rw [splice_one _ _ _ (by rw [Itm.len ok]; omega)]
  have hk := ok.key.1
  simp [Itm.cells, Itm.sl, u8l_len, hk]
theorem ok_pa (i : Itm) (ok : i.Ok) (v : Int) (hv : okI v) : { i with pa := v }.Ok :=
  ⟨ok.kind, ok.key, hv, ok.ps, ok.pu, ok.pr, ok.sn, ok.un, ok.skey, ok.so, ok.sm⟩
theorem set_ps (i : Itm) (ok : i.Ok) (v : Int) : splice i.cells 34 [.int .i64 v] = { i with ps := v }.cells := by
  rw [splice_one _ _ _ (by rw [Itm.len ok]; omega)]
  have hk := ok.key.1
  simp [Itm.cells, Itm.sl, u8l_len, hk]
theorem ok_ps (i : Itm) (ok : i.Ok) (v : Int) (hv : okI v) : { i with ps := v }.Ok :=
  ⟨ok.kind, ok.key, ok.pa, hv, ok.pu, ok.pr, ok.sn, ok.un, ok.skey, ok.so, ok.sm⟩
theorem set_pu (i : Itm) (ok : i.Ok) (v : Int) : splice i.cells 35 [.int .i64 v] = { i with pu := v }.cells := by
  rw [splice_one _ _ _ (by rw [Itm.len ok]; omega)]
  have hk := ok.key.1
  simp [Itm.cells, Itm.sl, u8l_len, hk]
theorem ok_pu (i : Itm) (ok : i.Ok) (v : Int) (hv : okI v) : { i with pu := v }.Ok :=
  ⟨ok.kind, ok.key, ok.pa, ok.ps, hv, ok.pr, ok.sn, ok.un, ok.skey, ok.so, ok.sm⟩
theorem set_pr (i : Itm) (ok : i.Ok) (v : Int) : splice i.cells 36 [.int .i64 v] = { i with pr := v }.cells := by
  rw [splice_one _ _ _ (by rw [Itm.len ok]; omega)]
  have hk := ok.key.1
  simp [Itm.cells, Itm.sl, u8l_len, hk]
theorem ok_pr (i : Itm) (ok : i.Ok) (v : Int) (hv : okI v) : { i with pr := v }.Ok :=
  ⟨ok.kind, ok.key, ok.pa, ok.ps, ok.pu, hv, ok.sn, ok.un, ok.skey, ok.so, ok.sm⟩
theorem set_sn (i : Itm) (ok : i.Ok) (v : Int) : splice i.cells 37 [.int .i64 v] = { i with sn := v }.cells := by
  rw [splice_one _ _ _ (by rw [Itm.len ok]; omega)]
  have hk := ok.key.1
  simp [Itm.cells, Itm.sl, u8l_len, hk]
theorem ok_sn (i : Itm) (ok : i.Ok) (v : Int) (hv : okI v) : { i with sn := v }.Ok :=
  ⟨ok.kind, ok.key, ok.pa, ok.ps, ok.pu, ok.pr, hv, ok.un, ok.skey, ok.so, ok.sm⟩
theorem set_un (i : Itm) (ok : i.Ok) (v : Int) : splice i.cells 38 [.int .i64 v] = { i with un := v }.cells := by
  rw [splice_one _ _ _ (by rw [Itm.len ok]; omega)]
  have hk := ok.key.1
  simp [Itm.cells, Itm.sl, u8l_len, hk]
theorem ok_un (i : Itm) (ok : i.Ok) (v : Int) (hv : okI v) : { i with un := v }.Ok :=
  ⟨ok.kind, ok.key, ok.pa, ok.ps, ok.pu, ok.pr, ok.sn, hv, ok.skey, ok.so, ok.sm⟩
theorem set_so (i : Itm) (ok : i.Ok) (v : Int) : splice i.cells 71 [.int .i64 v] = { i with so := v }.cells := by
  rw [splice_one _ _ _ (by rw [Itm.len ok]; omega)]
  have hk := ok.key.1
  have hs := ok.skey.1
  simp [Itm.cells, Itm.sl, u8l_len, hk, hs]
theorem ok_so (i : Itm) (ok : i.Ok) (v : Int) (hv : okI v) : { i with so := v }.Ok :=
  ⟨ok.kind, ok.key, ok.pa, ok.ps, ok.pu, ok.pr, ok.sn, ok.un, ok.skey, hv, ok.sm⟩
theorem set_sm (i : Itm) (ok : i.Ok) (v : Int) : splice i.cells 72 [.int .i64 v] = { i with sm := v }.cells := by
  rw [splice_one _ _ _ (by rw [Itm.len ok]; omega)]
  have hk := ok.key.1
  have hs := ok.skey.1
  simp [Itm.cells, Itm.sl, u8l_len, hk, hs]
theorem ok_sm (i : Itm) (ok : i.Ok) (v : Int) (hv : okI v) : { i with sm := v }.Ok :=
  ⟨ok.kind, ok.key, ok.pa, ok.ps, ok.pu, ok.pr, ok.sn, ok.un, ok.skey, ok.so, hv⟩
theorem set_kind (i : Itm) (ok : i.Ok) (v : Int) : splice i.cells 0 [.int .u8 v] = { i with kind := v }.cells := by
  rw [splice_one _ _ _ (by rw [Itm.len ok]; omega)]
  rfl
theorem ok_kind (i : Itm) (ok : i.Ok) (v : Int) : { i with kind := v % 256 }.Ok :=
  ⟨by show 0 ≤ v % 256 ∧ v % 256 < 256; omega, ok.key, ok.pa, ok.ps, ok.pu, ok.pr, ok.sn, ok.un, ok.skey, ok.so, ok.sm⟩
theorem bytes_set {n : Nat} {xs : List Int} (h : Bytes n xs) (q : Nat) (v : Int) (hv : 0 ≤ v ∧ v < 256) : Bytes n (xs.set q v) := ⟨by rw [List.length_set]; exact h.1, fun x hx => by
  rcases List.mem_or_eq_of_mem_set hx with hx | rfl
  · exact h.2 x hx
  · exact hv⟩
theorem u8l_set (xs : List Int) (q : Nat) (v : Int) : (u8l xs).set q (.int .u8 v) = u8l (xs.set q v) := by rw [u8l, u8l, List.map_set]
theorem set_key (i : Itm) (ok : i.Ok) (q : Nat) (hq : q < 32) (v : Int) : splice i.cells (1 + q) [.int .u8 v] = { i with key := i.key.set q v }.cells := by
  rw [splice_one _ _ _ (by rw [Itm.len ok]; omega)]
  have hk := ok.key.1
  simp only [Itm.cells, Itm.sl]
  rw [Nat.add_comm, List.set_cons_succ, List.append_assoc, List.set_append_left _ _ (by rw [u8l_len]; omega), u8l_set, List.append_assoc]
theorem set_skey (i : Itm) (ok : i.Ok) (q : Nat) (hq : q < 32) (v : Int) : splice i.cells (39 + q) [.int .u8 v] = { i with skey := i.skey.set q v }.cells := by
  rw [splice_one _ _ _ (by rw [Itm.len ok]; omega)]
  have hk := ok.key.1
  have hs := ok.skey.1
  simp only [Itm.cells, Itm.sl]
  rw [show 39 + q = (38 + q) + 1 by omega, List.set_cons_succ, List.set_append_right _ _ (by simp [u8l_len, hk]), List.set_append_left _ _ (by simp [u8l_len, hk, hs]; omega)]
  rw [show 38 + q - (u8l i.key ++ [Value.int .i64 i.pa, Value.int .i64 i.ps, Value.int .i64 i.pu, Value.int .i64 i.pr, Value.int .i64 i.sn, Value.int .i64 i.un]).length = q by simp [u8l_len, hk], u8l_set]
theorem ok_key (i : Itm) (ok : i.Ok) (q : Nat) : { i with key := i.key.set q 1 }.Ok :=
  ⟨ok.kind, bytes_set ok.key q 1 (by omega), ok.pa, ok.ps, ok.pu, ok.pr, ok.sn, ok.un, ok.skey, ok.so, ok.sm⟩
theorem ok_skey (i : Itm) (ok : i.Ok) (q : Nat) : { i with skey := i.skey.set q 1 }.Ok :=
  ⟨ok.kind, ok.key, ok.pa, ok.ps, ok.pu, ok.pr, ok.sn, ok.un, bytes_set ok.skey q 1 (by omega), ok.so, ok.sm⟩
theorem and31 (v : Int) : ∃ q : Nat, q < 32 ∧ bits .and .i64 v 31 = (q : Int) := by
  have h : (BitVec.ofInt 64 v &&& BitVec.ofInt 64 31).toNat ≤ 31 := by
    rw [BitVec.toNat_and]
    exact Nat.and_le_right
  refine ⟨(BitVec.ofInt 64 v &&& BitVec.ofInt 64 31).toNat, by omega, ?_⟩
  show IntKind.i64.wrap ((BitVec.ofInt 64 v &&& BitVec.ofInt 64 31).toNat : Int) = _
  rw [IntKind.wrap_i64]
  omega
/-- What bent tells: some item. -/
def BentOut (e : Ending) : Prop := ∃ j : Itm, j.Ok ∧ e = .returned (.agg j.cells.toArray)
theorem info22 : (Try.prog.info? 22).map (·.size) = some 1 := by kernel_rfl
set_option maxRecDepth 100000 in
set_option maxHeartbeats 4000000 in
theorem bent17_0 (i : Itm) (ok : i.Ok) (v : Int) (hv : okI v) (w : World) : Calls Try.prog 17 #[.agg i.cells.toArray, .int .i64 0, .int .i64 v] w fun e w' => BentOut e ∧ Below w.heap.size w w' := by
  have M := Lib.hid (((Mem.nil w).push i.cells 30).push (zI 0) 30)
  have z30 := zero30
  have hlc : Hid (i.cells.length = 73) := Lib.hid (Itm.len ok)
  obtain ⟨j, hj⟩ : ∃ j, j = ({ i with pa := v } : Itm) := ⟨_, rfl⟩
  have oj : Hid j.Ok := Lib.hid (by rw [hj]; exact ok_pa i ok v hv)
  have hJ := Lib.hid hj
  have hjs : Hid ((Try.prog.info? 30).map (·.size) = some j.cells.length) := Lib.hid (by rw [Itm.len oj.out]; exact info30)
  have hjc : Hid (j.cells.length = 73) := Lib.hid (Itm.len oj.out)
  clear hj
  go_enter Try.func17, Try.ntmps17
  go_upto_region 1 with fail
  obtain ⟨w1, hw1⟩ : ∃ w1, w1 = (w.alloc (Obj.cells i.cells.toArray 30)).alloc (.cells (zI 0).toArray 30) := ⟨_, rfl⟩
  obtain ⟨b1, hb1⟩ : ∃ b, b = w.heap.size := ⟨_, rfl⟩
  obtain ⟨b2, hb2⟩ : ∃ b, b = (w.alloc (Obj.cells i.cells.toArray 30)).heap.size := ⟨_, rfl⟩
  have hb2' : b2 = w.heap.size + 1 := by rw [hb2]; simp
  have M1 : Hid (Mem w w1 [(b1, i.cells, 30), (b2, zI 0, 30)]) := Lib.hid (by rw [hw1, hb1, hb2]; exact M.out)
  rw [← hw1, ← hb2', ← hb1]
  clear hw1 hb1 hb2 hb2' M
  go_upto_region 23 with (refine wpList_store_one rfl 3 (.tmp 17) (.tmp 15) rfl b1 33 rfl .i64 v rfl M1.out 0 _ 30 rfl info3 (by rw [hlc.out]; omega) rfl ?_; intro w2 M2 hs2)
  have M3 : Hid (Mem w w2 [(b1, j.cells, 30), (b2, zI 0, 30)]) := Lib.hid (by
    have p := M2.out
    rw [set_pa i ok v] at p
    rw [hJ.out]; exact p)
  clear M2 M1 hs2
  have g1 := M3.out.all 0 rfl
  go_wp2_with first
    | (refine wpList_load_midG rfl 30 (.tmp 3) rfl b1 0 rfl j.cells _ g1 Try.underlying30 rfl hjs.out ?_)
    | (refine wpList_store_seg rfl 30 (.tmp 6) (.tmp 62) rfl b2 0 rfl j.cells rfl M3.out 1 _ 30 rfl hjs.out (by rw [hjc.out]; simp [zI, zb]) (item_one oj.out) rfl ?_; intro wz Mz hsz)
  have hz : wz.rangeAt b2 0 j.cells := by
    have p := Mz.out.all 1 rfl
    rw [splice_all _ _ (by rw [hjc.out]; rfl)] at p
    exact p
  have hbz := Mz.out.below
  clear Mz
  refine bodyPost_ret (results_cell_one rfl _ _ b2 _ _ rfl hz Try.underlying30 rfl hjs.out) rfl ?_
  exact ⟨⟨j, oj.out, rfl⟩, hbz⟩
set_option maxRecDepth 100000 in
set_option maxHeartbeats 4000000 in
theorem bent17_1 (i : Itm) (ok : i.Ok) (v : Int) (hv : okI v) (w : World) : Calls Try.prog 17 #[.agg i.cells.toArray, .int .i64 1, .int .i64 v] w fun e w' => BentOut e ∧ Below w.heap.size w w' := by
  have M := Lib.hid (((Mem.nil w).push i.cells 30).push (zI 0) 30)
  have z30 := zero30
  have hlc : Hid (i.cells.length = 73) := Lib.hid (Itm.len ok)
  obtain ⟨j, hj⟩ : ∃ j, j = ({ i with ps := v } : Itm) := ⟨_, rfl⟩
  have oj : Hid j.Ok := Lib.hid (by rw [hj]; exact ok_ps i ok v hv)
  have hJ := Lib.hid hj
  have hjs : Hid ((Try.prog.info? 30).map (·.size) = some j.cells.length) := Lib.hid (by rw [Itm.len oj.out]; exact info30)
  have hjc : Hid (j.cells.length = 73) := Lib.hid (Itm.len oj.out)
  clear hj
  go_enter Try.func17, Try.ntmps17
  go_upto_region 1 with fail
  obtain ⟨w1, hw1⟩ : ∃ w1, w1 = (w.alloc (Obj.cells i.cells.toArray 30)).alloc (.cells (zI 0).toArray 30) := ⟨_, rfl⟩
  obtain ⟨b1, hb1⟩ : ∃ b, b = w.heap.size := ⟨_, rfl⟩
  obtain ⟨b2, hb2⟩ : ∃ b, b = (w.alloc (Obj.cells i.cells.toArray 30)).heap.size := ⟨_, rfl⟩
  have hb2' : b2 = w.heap.size + 1 := by rw [hb2]; simp
  have M1 : Hid (Mem w w1 [(b1, i.cells, 30), (b2, zI 0, 30)]) := Lib.hid (by rw [hw1, hb1, hb2]; exact M.out)
  rw [← hw1, ← hb2', ← hb1]
  clear hw1 hb1 hb2 hb2' M
  go_upto_region 23 with (refine wpList_store_one rfl 3 (.tmp 22) (.tmp 20) rfl b1 34 rfl .i64 v rfl M1.out 0 _ 30 rfl info3 (by rw [hlc.out]; omega) rfl ?_; intro w2 M2 hs2)
  have M3 : Hid (Mem w w2 [(b1, j.cells, 30), (b2, zI 0, 30)]) := Lib.hid (by
    have p := M2.out
    rw [set_ps i ok v] at p
    rw [hJ.out]; exact p)
  clear M2 M1 hs2
  have g1 := M3.out.all 0 rfl
  go_wp2_with first
    | (refine wpList_load_midG rfl 30 (.tmp 3) rfl b1 0 rfl j.cells _ g1 Try.underlying30 rfl hjs.out ?_)
    | (refine wpList_store_seg rfl 30 (.tmp 6) (.tmp 62) rfl b2 0 rfl j.cells rfl M3.out 1 _ 30 rfl hjs.out (by rw [hjc.out]; simp [zI, zb]) (item_one oj.out) rfl ?_; intro wz Mz hsz)
  have hz : wz.rangeAt b2 0 j.cells := by
    have p := Mz.out.all 1 rfl
    rw [splice_all _ _ (by rw [hjc.out]; rfl)] at p
    exact p
  have hbz := Mz.out.below
  clear Mz
  refine bodyPost_ret (results_cell_one rfl _ _ b2 _ _ rfl hz Try.underlying30 rfl hjs.out) rfl ?_
  exact ⟨⟨j, oj.out, rfl⟩, hbz⟩
set_option maxRecDepth 100000 in
set_option maxHeartbeats 4000000 in
theorem bent17_2 (i : Itm) (ok : i.Ok) (v : Int) (hv : okI v) (w : World) : Calls Try.prog 17 #[.agg i.cells.toArray, .int .i64 2, .int .i64 v] w fun e w' => BentOut e ∧ Below w.heap.size w w' := by
  have M := Lib.hid (((Mem.nil w).push i.cells 30).push (zI 0) 30)
  have z30 := zero30
  have hlc : Hid (i.cells.length = 73) := Lib.hid (Itm.len ok)
  obtain ⟨j, hj⟩ : ∃ j, j = ({ i with pu := v } : Itm) := ⟨_, rfl⟩
  have oj : Hid j.Ok := Lib.hid (by rw [hj]; exact ok_pu i ok v hv)
  have hJ := Lib.hid hj
  have hjs : Hid ((Try.prog.info? 30).map (·.size) = some j.cells.length) := Lib.hid (by rw [Itm.len oj.out]; exact info30)
  have hjc : Hid (j.cells.length = 73) := Lib.hid (Itm.len oj.out)
  clear hj
  go_enter Try.func17, Try.ntmps17
  go_upto_region 1 with fail
  obtain ⟨w1, hw1⟩ : ∃ w1, w1 = (w.alloc (Obj.cells i.cells.toArray 30)).alloc (.cells (zI 0).toArray 30) := ⟨_, rfl⟩
  obtain ⟨b1, hb1⟩ : ∃ b, b = w.heap.size := ⟨_, rfl⟩
  obtain ⟨b2, hb2⟩ : ∃ b, b = (w.alloc (Obj.cells i.cells.toArray 30)).heap.size := ⟨_, rfl⟩
  have hb2' : b2 = w.heap.size + 1 := by rw [hb2]; simp
  have M1 : Hid (Mem w w1 [(b1, i.cells, 30), (b2, zI 0, 30)]) := Lib.hid (by rw [hw1, hb1, hb2]; exact M.out)
  rw [← hw1, ← hb2', ← hb1]
  clear hw1 hb1 hb2 hb2' M
  go_upto_region 23 with (refine wpList_store_one rfl 3 (.tmp 27) (.tmp 25) rfl b1 35 rfl .i64 v rfl M1.out 0 _ 30 rfl info3 (by rw [hlc.out]; omega) rfl ?_; intro w2 M2 hs2)
  have M3 : Hid (Mem w w2 [(b1, j.cells, 30), (b2, zI 0, 30)]) := Lib.hid (by
    have p := M2.out
    rw [set_pu i ok v] at p
    rw [hJ.out]; exact p)
  clear M2 M1 hs2
  have g1 := M3.out.all 0 rfl
  go_wp2_with first
    | (refine wpList_load_midG rfl 30 (.tmp 3) rfl b1 0 rfl j.cells _ g1 Try.underlying30 rfl hjs.out ?_)
    | (refine wpList_store_seg rfl 30 (.tmp 6) (.tmp 62) rfl b2 0 rfl j.cells rfl M3.out 1 _ 30 rfl hjs.out (by rw [hjc.out]; simp [zI, zb]) (item_one oj.out) rfl ?_; intro wz Mz hsz)
  have hz : wz.rangeAt b2 0 j.cells := by
    have p := Mz.out.all 1 rfl
    rw [splice_all _ _ (by rw [hjc.out]; rfl)] at p
    exact p
  have hbz := Mz.out.below
  clear Mz
  refine bodyPost_ret (results_cell_one rfl _ _ b2 _ _ rfl hz Try.underlying30 rfl hjs.out) rfl ?_
  exact ⟨⟨j, oj.out, rfl⟩, hbz⟩
set_option maxRecDepth 100000 in
set_option maxHeartbeats 4000000 in
theorem bent17_3 (i : Itm) (ok : i.Ok) (v : Int) (hv : okI v) (w : World) : Calls Try.prog 17 #[.agg i.cells.toArray, .int .i64 3, .int .i64 v] w fun e w' => BentOut e ∧ Below w.heap.size w w' := by
  have M := Lib.hid (((Mem.nil w).push i.cells 30).push (zI 0) 30)
  have z30 := zero30
  have hlc : Hid (i.cells.length = 73) := Lib.hid (Itm.len ok)
  obtain ⟨j, hj⟩ : ∃ j, j = ({ i with pr := v } : Itm) := ⟨_, rfl⟩
  have oj : Hid j.Ok := Lib.hid (by rw [hj]; exact ok_pr i ok v hv)
  have hJ := Lib.hid hj
  have hjs : Hid ((Try.prog.info? 30).map (·.size) = some j.cells.length) := Lib.hid (by rw [Itm.len oj.out]; exact info30)
  have hjc : Hid (j.cells.length = 73) := Lib.hid (Itm.len oj.out)
  clear hj
  go_enter Try.func17, Try.ntmps17
  go_upto_region 1 with fail
  obtain ⟨w1, hw1⟩ : ∃ w1, w1 = (w.alloc (Obj.cells i.cells.toArray 30)).alloc (.cells (zI 0).toArray 30) := ⟨_, rfl⟩
  obtain ⟨b1, hb1⟩ : ∃ b, b = w.heap.size := ⟨_, rfl⟩
  obtain ⟨b2, hb2⟩ : ∃ b, b = (w.alloc (Obj.cells i.cells.toArray 30)).heap.size := ⟨_, rfl⟩
  have hb2' : b2 = w.heap.size + 1 := by rw [hb2]; simp
  have M1 : Hid (Mem w w1 [(b1, i.cells, 30), (b2, zI 0, 30)]) := Lib.hid (by rw [hw1, hb1, hb2]; exact M.out)
  rw [← hw1, ← hb2', ← hb1]
  clear hw1 hb1 hb2 hb2' M
  go_upto_region 23 with (refine wpList_store_one rfl 3 (.tmp 32) (.tmp 30) rfl b1 36 rfl .i64 v rfl M1.out 0 _ 30 rfl info3 (by rw [hlc.out]; omega) rfl ?_; intro w2 M2 hs2)
  have M3 : Hid (Mem w w2 [(b1, j.cells, 30), (b2, zI 0, 30)]) := Lib.hid (by
    have p := M2.out
    rw [set_pr i ok v] at p
    rw [hJ.out]; exact p)
  clear M2 M1 hs2
  have g1 := M3.out.all 0 rfl
  go_wp2_with first
    | (refine wpList_load_midG rfl 30 (.tmp 3) rfl b1 0 rfl j.cells _ g1 Try.underlying30 rfl hjs.out ?_)
    | (refine wpList_store_seg rfl 30 (.tmp 6) (.tmp 62) rfl b2 0 rfl j.cells rfl M3.out 1 _ 30 rfl hjs.out (by rw [hjc.out]; simp [zI, zb]) (item_one oj.out) rfl ?_; intro wz Mz hsz)
  have hz : wz.rangeAt b2 0 j.cells := by
    have p := Mz.out.all 1 rfl
    rw [splice_all _ _ (by rw [hjc.out]; rfl)] at p
    exact p
  have hbz := Mz.out.below
  clear Mz
  refine bodyPost_ret (results_cell_one rfl _ _ b2 _ _ rfl hz Try.underlying30 rfl hjs.out) rfl ?_
  exact ⟨⟨j, oj.out, rfl⟩, hbz⟩
set_option maxRecDepth 100000 in
set_option maxHeartbeats 4000000 in
theorem bent17_4 (i : Itm) (ok : i.Ok) (v : Int) (hv : okI v) (w : World) : Calls Try.prog 17 #[.agg i.cells.toArray, .int .i64 4, .int .i64 v] w fun e w' => BentOut e ∧ Below w.heap.size w w' := by
  have M := Lib.hid (((Mem.nil w).push i.cells 30).push (zI 0) 30)
  have z30 := zero30
  have hlc : Hid (i.cells.length = 73) := Lib.hid (Itm.len ok)
  obtain ⟨j, hj⟩ : ∃ j, j = ({ i with sn := v } : Itm) := ⟨_, rfl⟩
  have oj : Hid j.Ok := Lib.hid (by rw [hj]; exact ok_sn i ok v hv)
  have hJ := Lib.hid hj
  have hjs : Hid ((Try.prog.info? 30).map (·.size) = some j.cells.length) := Lib.hid (by rw [Itm.len oj.out]; exact info30)
  have hjc : Hid (j.cells.length = 73) := Lib.hid (Itm.len oj.out)
  clear hj
  go_enter Try.func17, Try.ntmps17
  go_upto_region 1 with fail
  obtain ⟨w1, hw1⟩ : ∃ w1, w1 = (w.alloc (Obj.cells i.cells.toArray 30)).alloc (.cells (zI 0).toArray 30) := ⟨_, rfl⟩
  obtain ⟨b1, hb1⟩ : ∃ b, b = w.heap.size := ⟨_, rfl⟩
  obtain ⟨b2, hb2⟩ : ∃ b, b = (w.alloc (Obj.cells i.cells.toArray 30)).heap.size := ⟨_, rfl⟩
  have hb2' : b2 = w.heap.size + 1 := by rw [hb2]; simp
  have M1 : Hid (Mem w w1 [(b1, i.cells, 30), (b2, zI 0, 30)]) := Lib.hid (by rw [hw1, hb1, hb2]; exact M.out)
  rw [← hw1, ← hb2', ← hb1]
  clear hw1 hb1 hb2 hb2' M
  go_upto_region 23 with (refine wpList_store_one rfl 3 (.tmp 36) (.tmp 35) rfl b1 37 rfl .i64 v rfl M1.out 0 _ 30 rfl info3 (by rw [hlc.out]; omega) rfl ?_; intro w2 M2 hs2)
  have M3 : Hid (Mem w w2 [(b1, j.cells, 30), (b2, zI 0, 30)]) := Lib.hid (by
    have p := M2.out
    rw [set_sn i ok v] at p
    rw [hJ.out]; exact p)
  clear M2 M1 hs2
  have g1 := M3.out.all 0 rfl
  go_wp2_with first
    | (refine wpList_load_midG rfl 30 (.tmp 3) rfl b1 0 rfl j.cells _ g1 Try.underlying30 rfl hjs.out ?_)
    | (refine wpList_store_seg rfl 30 (.tmp 6) (.tmp 62) rfl b2 0 rfl j.cells rfl M3.out 1 _ 30 rfl hjs.out (by rw [hjc.out]; simp [zI, zb]) (item_one oj.out) rfl ?_; intro wz Mz hsz)
  have hz : wz.rangeAt b2 0 j.cells := by
    have p := Mz.out.all 1 rfl
    rw [splice_all _ _ (by rw [hjc.out]; rfl)] at p
    exact p
  have hbz := Mz.out.below
  clear Mz
  refine bodyPost_ret (results_cell_one rfl _ _ b2 _ _ rfl hz Try.underlying30 rfl hjs.out) rfl ?_
  exact ⟨⟨j, oj.out, rfl⟩, hbz⟩
set_option maxRecDepth 100000 in
set_option maxHeartbeats 4000000 in
theorem bent17_5 (i : Itm) (ok : i.Ok) (v : Int) (hv : okI v) (w : World) : Calls Try.prog 17 #[.agg i.cells.toArray, .int .i64 5, .int .i64 v] w fun e w' => BentOut e ∧ Below w.heap.size w w' := by
  have M := Lib.hid (((Mem.nil w).push i.cells 30).push (zI 0) 30)
  have z30 := zero30
  have hlc : Hid (i.cells.length = 73) := Lib.hid (Itm.len ok)
  obtain ⟨j, hj⟩ : ∃ j, j = ({ i with un := v } : Itm) := ⟨_, rfl⟩
  have oj : Hid j.Ok := Lib.hid (by rw [hj]; exact ok_un i ok v hv)
  have hJ := Lib.hid hj
  have hjs : Hid ((Try.prog.info? 30).map (·.size) = some j.cells.length) := Lib.hid (by rw [Itm.len oj.out]; exact info30)
  have hjc : Hid (j.cells.length = 73) := Lib.hid (Itm.len oj.out)
  clear hj
  go_enter Try.func17, Try.ntmps17
  go_upto_region 1 with fail
  obtain ⟨w1, hw1⟩ : ∃ w1, w1 = (w.alloc (Obj.cells i.cells.toArray 30)).alloc (.cells (zI 0).toArray 30) := ⟨_, rfl⟩
  obtain ⟨b1, hb1⟩ : ∃ b, b = w.heap.size := ⟨_, rfl⟩
  obtain ⟨b2, hb2⟩ : ∃ b, b = (w.alloc (Obj.cells i.cells.toArray 30)).heap.size := ⟨_, rfl⟩
  have hb2' : b2 = w.heap.size + 1 := by rw [hb2]; simp
  have M1 : Hid (Mem w w1 [(b1, i.cells, 30), (b2, zI 0, 30)]) := Lib.hid (by rw [hw1, hb1, hb2]; exact M.out)
  rw [← hw1, ← hb2', ← hb1]
  clear hw1 hb1 hb2 hb2' M
  go_upto_region 23 with (refine wpList_store_one rfl 3 (.tmp 40) (.tmp 39) rfl b1 38 rfl .i64 v rfl M1.out 0 _ 30 rfl info3 (by rw [hlc.out]; omega) rfl ?_; intro w2 M2 hs2)
  have M3 : Hid (Mem w w2 [(b1, j.cells, 30), (b2, zI 0, 30)]) := Lib.hid (by
    have p := M2.out
    rw [set_un i ok v] at p
    rw [hJ.out]; exact p)
  clear M2 M1 hs2
  have g1 := M3.out.all 0 rfl
  go_wp2_with first
    | (refine wpList_load_midG rfl 30 (.tmp 3) rfl b1 0 rfl j.cells _ g1 Try.underlying30 rfl hjs.out ?_)
    | (refine wpList_store_seg rfl 30 (.tmp 6) (.tmp 62) rfl b2 0 rfl j.cells rfl M3.out 1 _ 30 rfl hjs.out (by rw [hjc.out]; simp [zI, zb]) (item_one oj.out) rfl ?_; intro wz Mz hsz)
  have hz : wz.rangeAt b2 0 j.cells := by
    have p := Mz.out.all 1 rfl
    rw [splice_all _ _ (by rw [hjc.out]; rfl)] at p
    exact p
  have hbz := Mz.out.below
  clear Mz
  refine bodyPost_ret (results_cell_one rfl _ _ b2 _ _ rfl hz Try.underlying30 rfl hjs.out) rfl ?_
  exact ⟨⟨j, oj.out, rfl⟩, hbz⟩
set_option maxRecDepth 100000 in
set_option maxHeartbeats 4000000 in
theorem bent17_6 (i : Itm) (ok : i.Ok) (v : Int) (hv : okI v) (w : World) : Calls Try.prog 17 #[.agg i.cells.toArray, .int .i64 6, .int .i64 v] w fun e w' => BentOut e ∧ Below w.heap.size w w' := by
  have M := Lib.hid (((Mem.nil w).push i.cells 30).push (zI 0) 30)
  have z30 := zero30
  have hlc : Hid (i.cells.length = 73) := Lib.hid (Itm.len ok)
  obtain ⟨j, hj⟩ : ∃ j, j = ({ i with so := v } : Itm) := ⟨_, rfl⟩
  have oj : Hid j.Ok := Lib.hid (by rw [hj]; exact ok_so i ok v hv)
  have hJ := Lib.hid hj
  have hjs : Hid ((Try.prog.info? 30).map (·.size) = some j.cells.length) := Lib.hid (by rw [Itm.len oj.out]; exact info30)
  have hjc : Hid (j.cells.length = 73) := Lib.hid (Itm.len oj.out)
  clear hj
  go_enter Try.func17, Try.ntmps17
  go_upto_region 1 with fail
  obtain ⟨w1, hw1⟩ : ∃ w1, w1 = (w.alloc (Obj.cells i.cells.toArray 30)).alloc (.cells (zI 0).toArray 30) := ⟨_, rfl⟩
  obtain ⟨b1, hb1⟩ : ∃ b, b = w.heap.size := ⟨_, rfl⟩
  obtain ⟨b2, hb2⟩ : ∃ b, b = (w.alloc (Obj.cells i.cells.toArray 30)).heap.size := ⟨_, rfl⟩
  have hb2' : b2 = w.heap.size + 1 := by rw [hb2]; simp
  have M1 : Hid (Mem w w1 [(b1, i.cells, 30), (b2, zI 0, 30)]) := Lib.hid (by rw [hw1, hb1, hb2]; exact M.out)
  rw [← hw1, ← hb2', ← hb1]
  clear hw1 hb1 hb2 hb2' M
  go_upto_region 23 with (refine wpList_store_one rfl 3 (.tmp 45) (.tmp 43) rfl b1 71 rfl .i64 v rfl M1.out 0 _ 30 rfl info3 (by rw [hlc.out]; omega) rfl ?_; intro w2 M2 hs2)
  have M3 : Hid (Mem w w2 [(b1, j.cells, 30), (b2, zI 0, 30)]) := Lib.hid (by
    have p := M2.out
    rw [set_so i ok v] at p
    rw [hJ.out]; exact p)
  clear M2 M1 hs2
  have g1 := M3.out.all 0 rfl
  go_wp2_with first
    | (refine wpList_load_midG rfl 30 (.tmp 3) rfl b1 0 rfl j.cells _ g1 Try.underlying30 rfl hjs.out ?_)
    | (refine wpList_store_seg rfl 30 (.tmp 6) (.tmp 62) rfl b2 0 rfl j.cells rfl M3.out 1 _ 30 rfl hjs.out (by rw [hjc.out]; simp [zI, zb]) (item_one oj.out) rfl ?_; intro wz Mz hsz)
  have hz : wz.rangeAt b2 0 j.cells := by
    have p := Mz.out.all 1 rfl
    rw [splice_all _ _ (by rw [hjc.out]; rfl)] at p
    exact p
  have hbz := Mz.out.below
  clear Mz
  refine bodyPost_ret (results_cell_one rfl _ _ b2 _ _ rfl hz Try.underlying30 rfl hjs.out) rfl ?_
  exact ⟨⟨j, oj.out, rfl⟩, hbz⟩
set_option maxRecDepth 100000 in
set_option maxHeartbeats 4000000 in
theorem bent17_7 (i : Itm) (ok : i.Ok) (v : Int) (hv : okI v) (w : World) : Calls Try.prog 17 #[.agg i.cells.toArray, .int .i64 7, .int .i64 v] w fun e w' => BentOut e ∧ Below w.heap.size w w' := by
  have M := Lib.hid (((Mem.nil w).push i.cells 30).push (zI 0) 30)
  have z30 := zero30
  have hlc : Hid (i.cells.length = 73) := Lib.hid (Itm.len ok)
  obtain ⟨j, hj⟩ : ∃ j, j = ({ i with sm := v } : Itm) := ⟨_, rfl⟩
  have oj : Hid j.Ok := Lib.hid (by rw [hj]; exact ok_sm i ok v hv)
  have hJ := Lib.hid hj
  have hjs : Hid ((Try.prog.info? 30).map (·.size) = some j.cells.length) := Lib.hid (by rw [Itm.len oj.out]; exact info30)
  have hjc : Hid (j.cells.length = 73) := Lib.hid (Itm.len oj.out)
  clear hj
  go_enter Try.func17, Try.ntmps17
  go_upto_region 1 with fail
  obtain ⟨w1, hw1⟩ : ∃ w1, w1 = (w.alloc (Obj.cells i.cells.toArray 30)).alloc (.cells (zI 0).toArray 30) := ⟨_, rfl⟩
  obtain ⟨b1, hb1⟩ : ∃ b, b = w.heap.size := ⟨_, rfl⟩
  obtain ⟨b2, hb2⟩ : ∃ b, b = (w.alloc (Obj.cells i.cells.toArray 30)).heap.size := ⟨_, rfl⟩
  have hb2' : b2 = w.heap.size + 1 := by rw [hb2]; simp
  have M1 : Hid (Mem w w1 [(b1, i.cells, 30), (b2, zI 0, 30)]) := Lib.hid (by rw [hw1, hb1, hb2]; exact M.out)
  rw [← hw1, ← hb2', ← hb1]
  clear hw1 hb1 hb2 hb2' M
  go_upto_region 23 with (refine wpList_store_one rfl 3 (.tmp 50) (.tmp 48) rfl b1 72 rfl .i64 v rfl M1.out 0 _ 30 rfl info3 (by rw [hlc.out]; omega) rfl ?_; intro w2 M2 hs2)
  have M3 : Hid (Mem w w2 [(b1, j.cells, 30), (b2, zI 0, 30)]) := Lib.hid (by
    have p := M2.out
    rw [set_sm i ok v] at p
    rw [hJ.out]; exact p)
  clear M2 M1 hs2
  have g1 := M3.out.all 0 rfl
  go_wp2_with first
    | (refine wpList_load_midG rfl 30 (.tmp 3) rfl b1 0 rfl j.cells _ g1 Try.underlying30 rfl hjs.out ?_)
    | (refine wpList_store_seg rfl 30 (.tmp 6) (.tmp 62) rfl b2 0 rfl j.cells rfl M3.out 1 _ 30 rfl hjs.out (by rw [hjc.out]; simp [zI, zb]) (item_one oj.out) rfl ?_; intro wz Mz hsz)
  have hz : wz.rangeAt b2 0 j.cells := by
    have p := Mz.out.all 1 rfl
    rw [splice_all _ _ (by rw [hjc.out]; rfl)] at p
    exact p
  have hbz := Mz.out.below
  clear Mz
  refine bodyPost_ret (results_cell_one rfl _ _ b2 _ _ rfl hz Try.underlying30 rfl hjs.out) rfl ?_
  exact ⟨⟨j, oj.out, rfl⟩, hbz⟩
set_option maxRecDepth 100000 in
set_option maxHeartbeats 4000000 in
theorem bent17_8 (i : Itm) (ok : i.Ok) (v : Int) (w : World) : Calls Try.prog 17 #[.agg i.cells.toArray, .int .i64 8, .int .i64 v] w fun e w' => BentOut e ∧ Below w.heap.size w w' := by
  have M := Lib.hid (((Mem.nil w).push i.cells 30).push (zI 0) 30)
  have z30 := zero30
  have hlc : Hid (i.cells.length = 73) := Lib.hid (Itm.len ok)
  obtain ⟨j, hj⟩ : ∃ j, j = ({ i with kind := v % 256 } : Itm) := ⟨_, rfl⟩
  have oj : Hid j.Ok := Lib.hid (by rw [hj]; exact ok_kind i ok v)
  have hJ := Lib.hid hj
  have hjs : Hid ((Try.prog.info? 30).map (·.size) = some j.cells.length) := Lib.hid (by rw [Itm.len oj.out]; exact info30)
  have hjc : Hid (j.cells.length = 73) := Lib.hid (Itm.len oj.out)
  clear hj
  go_enter Try.func17, Try.ntmps17
  go_upto_region 1 with fail
  obtain ⟨w1, hw1⟩ : ∃ w1, w1 = (w.alloc (Obj.cells i.cells.toArray 30)).alloc (.cells (zI 0).toArray 30) := ⟨_, rfl⟩
  obtain ⟨b1, hb1⟩ : ∃ b, b = w.heap.size := ⟨_, rfl⟩
  obtain ⟨b2, hb2⟩ : ∃ b, b = (w.alloc (Obj.cells i.cells.toArray 30)).heap.size := ⟨_, rfl⟩
  have hb2' : b2 = w.heap.size + 1 := by rw [hb2]; simp
  have M1 : Hid (Mem w w1 [(b1, i.cells, 30), (b2, zI 0, 30)]) := Lib.hid (by rw [hw1, hb1, hb2]; exact M.out)
  rw [← hw1, ← hb2', ← hb1]
  clear hw1 hb1 hb2 hb2' M
  go_upto_region 23 with (refine wpList_store_one rfl 22 (.tmp 55) (.tmp 54) rfl b1 0 rfl .u8 (v % 256) rfl M1.out 0 _ 30 rfl info22 (by rw [hlc.out]; omega) rfl ?_; intro w2 M2 hs2)
  have M3 : Hid (Mem w w2 [(b1, j.cells, 30), (b2, zI 0, 30)]) := Lib.hid (by
    have p := M2.out
    rw [set_kind i ok (v % 256)] at p
    rw [hJ.out]; exact p)
  clear M2 M1 hs2
  have g1 := M3.out.all 0 rfl
  go_wp2_with first
    | (refine wpList_load_midG rfl 30 (.tmp 3) rfl b1 0 rfl j.cells _ g1 Try.underlying30 rfl hjs.out ?_)
    | (refine wpList_store_seg rfl 30 (.tmp 6) (.tmp 62) rfl b2 0 rfl j.cells rfl M3.out 1 _ 30 rfl hjs.out (by rw [hjc.out]; simp [zI, zb]) (item_one oj.out) rfl ?_; intro wz Mz hsz)
  have hz : wz.rangeAt b2 0 j.cells := by
    have p := Mz.out.all 1 rfl
    rw [splice_all _ _ (by rw [hjc.out]; rfl)] at p
    exact p
  have hbz := Mz.out.below
  clear Mz
  refine bodyPost_ret (results_cell_one rfl _ _ b2 _ _ rfl hz Try.underlying30 rfl hjs.out) rfl ?_
  exact ⟨⟨j, oj.out, rfl⟩, hbz⟩
set_option maxRecDepth 100000 in
set_option maxHeartbeats 4000000 in
theorem bent17_9 (i : Itm) (ok : i.Ok) (v : Int) (w : World) : Calls Try.prog 17 #[.agg i.cells.toArray, .int .i64 9, .int .i64 v] w fun e w' => BentOut e ∧ Below w.heap.size w w' := by
  have M := Lib.hid (((Mem.nil w).push i.cells 30).push (zI 0) 30)
  have z30 := zero30
  have hlc : Hid (i.cells.length = 73) := Lib.hid (Itm.len ok)
  obtain ⟨q, hq2, hq⟩ := and31 v
  have j1 : (0 : Int) ≤ q := by omega
  have j2 : (q : Int) < 32 := by omega
  obtain ⟨j, hj⟩ : ∃ j, j = ({ i with key := i.key.set q 1 } : Itm) := ⟨_, rfl⟩
  have oj : Hid j.Ok := Lib.hid (by rw [hj]; exact ok_key i ok q)
  have hJ := Lib.hid hj
  have hjs : Hid ((Try.prog.info? 30).map (·.size) = some j.cells.length) := Lib.hid (by rw [Itm.len oj.out]; exact info30)
  have hjc : Hid (j.cells.length = 73) := Lib.hid (Itm.len oj.out)
  clear hj
  go_enter Try.func17, Try.ntmps17
  go_upto_region 1 with fail
  obtain ⟨w1, hw1⟩ : ∃ w1, w1 = (w.alloc (Obj.cells i.cells.toArray 30)).alloc (.cells (zI 0).toArray 30) := ⟨_, rfl⟩
  obtain ⟨b1, hb1⟩ : ∃ b, b = w.heap.size := ⟨_, rfl⟩
  obtain ⟨b2, hb2⟩ : ∃ b, b = (w.alloc (Obj.cells i.cells.toArray 30)).heap.size := ⟨_, rfl⟩
  have hb2' : b2 = w.heap.size + 1 := by rw [hb2]; simp
  have M1 : Hid (Mem w w1 [(b1, i.cells, 30), (b2, zI 0, 30)]) := Lib.hid (by rw [hw1, hb1, hb2]; exact M.out)
  rw [← hw1, ← hb2', ← hb1]
  clear hw1 hb1 hb2 hb2' M
  go_upto_region 23 with (refine wpList_store_one rfl 5 (.tmp 61) (.const (.int .u8 1)) rfl b1 (1 + q) rfl .u8 1 rfl M1.out 0 _ 30 rfl info5 (by rw [hlc.out]; omega) rfl ?_; intro w2 M2 hs2)
  have M3 : Hid (Mem w w2 [(b1, j.cells, 30), (b2, zI 0, 30)]) := Lib.hid (by
    have p := M2.out
    rw [set_key i ok q hq2 1] at p
    rw [hJ.out]; exact p)
  clear M2 M1 hs2
  have g1 := M3.out.all 0 rfl
  go_wp2_with first
    | (refine wpList_load_midG rfl 30 (.tmp 3) rfl b1 0 rfl j.cells _ g1 Try.underlying30 rfl hjs.out ?_)
    | (refine wpList_store_seg rfl 30 (.tmp 6) (.tmp 62) rfl b2 0 rfl j.cells rfl M3.out 1 _ 30 rfl hjs.out (by rw [hjc.out]; simp [zI, zb]) (item_one oj.out) rfl ?_; intro wz Mz hsz)
  have hz : wz.rangeAt b2 0 j.cells := by
    have p := Mz.out.all 1 rfl
    rw [splice_all _ _ (by rw [hjc.out]; rfl)] at p
    exact p
  have hbz := Mz.out.below
  clear Mz
  refine bodyPost_ret (results_cell_one rfl _ _ b2 _ _ rfl hz Try.underlying30 rfl hjs.out) rfl ?_
  exact ⟨⟨j, oj.out, rfl⟩, hbz⟩
set_option maxRecDepth 100000 in
set_option maxHeartbeats 4000000 in
theorem bent17_10 (i : Itm) (ok : i.Ok) (v : Int) (n : Int) (n0 : n ≠ 0) (n1 : n ≠ 1) (n2 : n ≠ 2) (n3 : n ≠ 3) (n4 : n ≠ 4) (n5 : n ≠ 5) (n6 : n ≠ 6) (n7 : n ≠ 7) (n8 : n ≠ 8) (n9 : n ≠ 9) (w : World) : Calls Try.prog 17 #[.agg i.cells.toArray, .int .i64 n, .int .i64 v] w fun e w' => BentOut e ∧ Below w.heap.size w w' := by
  have t0 : decide (n = 0) = false := by simp [n0]
  have t1 : decide (n = 1) = false := by simp [n1]
  have t2 : decide (n = 2) = false := by simp [n2]
  have t3 : decide (n = 3) = false := by simp [n3]
  have t4 : decide (n = 4) = false := by simp [n4]
  have t5 : decide (n = 5) = false := by simp [n5]
  have t6 : decide (n = 6) = false := by simp [n6]
  have t7 : decide (n = 7) = false := by simp [n7]
  have t8 : decide (n = 8) = false := by simp [n8]
  have t9 : decide (n = 9) = false := by simp [n9]
  have M := Lib.hid (((Mem.nil w).push i.cells 30).push (zI 0) 30)
  have z30 := zero30
  have hlc : Hid (i.cells.length = 73) := Lib.hid (Itm.len ok)
  obtain ⟨q, hq2, hq⟩ := and31 v
  have j1 : (0 : Int) ≤ q := by omega
  have j2 : (q : Int) < 32 := by omega
  obtain ⟨j, hj⟩ : ∃ j, j = ({ i with skey := i.skey.set q 1 } : Itm) := ⟨_, rfl⟩
  have oj : Hid j.Ok := Lib.hid (by rw [hj]; exact ok_skey i ok q)
  have hJ := Lib.hid hj
  have hjs : Hid ((Try.prog.info? 30).map (·.size) = some j.cells.length) := Lib.hid (by rw [Itm.len oj.out]; exact info30)
  have hjc : Hid (j.cells.length = 73) := Lib.hid (Itm.len oj.out)
  clear hj
  go_enter Try.func17, Try.ntmps17
  go_upto_region 1 with fail
  obtain ⟨w1, hw1⟩ : ∃ w1, w1 = (w.alloc (Obj.cells i.cells.toArray 30)).alloc (.cells (zI 0).toArray 30) := ⟨_, rfl⟩
  obtain ⟨b1, hb1⟩ : ∃ b, b = w.heap.size := ⟨_, rfl⟩
  obtain ⟨b2, hb2⟩ : ∃ b, b = (w.alloc (Obj.cells i.cells.toArray 30)).heap.size := ⟨_, rfl⟩
  have hb2' : b2 = w.heap.size + 1 := by rw [hb2]; simp
  have M1 : Hid (Mem w w1 [(b1, i.cells, 30), (b2, zI 0, 30)]) := Lib.hid (by rw [hw1, hb1, hb2]; exact M.out)
  rw [← hw1, ← hb2', ← hb1]
  clear hw1 hb1 hb2 hb2' M
  go_upto_region 23 with (refine wpList_store_one rfl 5 (.tmp 12) (.const (.int .u8 1)) rfl b1 (39 + q) rfl .u8 1 rfl M1.out 0 _ 30 rfl info5 (by rw [hlc.out]; omega) rfl ?_; intro w2 M2 hs2)
  have M3 : Hid (Mem w w2 [(b1, j.cells, 30), (b2, zI 0, 30)]) := Lib.hid (by
    have p := M2.out
    rw [set_skey i ok q hq2 1] at p
    rw [hJ.out]; exact p)
  clear M2 M1 hs2
  have g1 := M3.out.all 0 rfl
  go_wp2_with first
    | (refine wpList_load_midG rfl 30 (.tmp 3) rfl b1 0 rfl j.cells _ g1 Try.underlying30 rfl hjs.out ?_)
    | (refine wpList_store_seg rfl 30 (.tmp 6) (.tmp 62) rfl b2 0 rfl j.cells rfl M3.out 1 _ 30 rfl hjs.out (by rw [hjc.out]; simp [zI, zb]) (item_one oj.out) rfl ?_; intro wz Mz hsz)
  have hz : wz.rangeAt b2 0 j.cells := by
    have p := Mz.out.all 1 rfl
    rw [splice_all _ _ (by rw [hjc.out]; rfl)] at p
    exact p
  have hbz := Mz.out.below
  clear Mz
  refine bodyPost_ret (results_cell_one rfl _ _ b2 _ _ rfl hz Try.underlying30 rfl hjs.out) rfl ?_
  exact ⟨⟨j, oj.out, rfl⟩, hbz⟩
theorem bent17 (i : Itm) (ok : i.Ok) (n v : Int) (hv : okI v) (w : World) : Calls Try.prog 17 #[.agg i.cells.toArray, .int .i64 n, .int .i64 v] w fun e w' => BentOut e ∧ Below w.heap.size w w' := by
  by_cases n0 : n = 0
  · rw [n0]; exact bent17_0 i ok v hv w
  by_cases n1 : n = 1
  · rw [n1]; exact bent17_1 i ok v hv w
  by_cases n2 : n = 2
  · rw [n2]; exact bent17_2 i ok v hv w
  by_cases n3 : n = 3
  · rw [n3]; exact bent17_3 i ok v hv w
  by_cases n4 : n = 4
  · rw [n4]; exact bent17_4 i ok v hv w
  by_cases n5 : n = 5
  · rw [n5]; exact bent17_5 i ok v hv w
  by_cases n6 : n = 6
  · rw [n6]; exact bent17_6 i ok v hv w
  by_cases n7 : n = 7
  · rw [n7]; exact bent17_7 i ok v hv w
  by_cases n8 : n = 8
  · rw [n8]; exact bent17_8 i ok v w
  by_cases n9 : n = 9
  · rw [n9]; exact bent17_9 i ok v w
  exact bent17_10 i ok v n n0 n1 n2 n3 n4 n5 n6 n7 n8 n9 w
end Go.Proofs.Ytmckngkmlhemoaa
