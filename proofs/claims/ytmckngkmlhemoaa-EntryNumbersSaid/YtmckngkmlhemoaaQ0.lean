/- Parts of an entry (layer 14). -/
import Derived.Test.YtmckngkmlhemoaaP5
namespace Go.Proofs.Ytmckngkmlhemoaa
open Go.RowKit
theorem k_sub (e : Ent) : (e.cells.drop 0).take (u8l e.k).length = u8l e.k := by
  rw [List.drop_zero, Ent.cells, u8l_app, List.take_left' rfl]
theorem v_sub {e : Ent} (ok : e.Ok) : (e.cells.drop 40).take (u8l e.v).length = u8l e.v := by
  rw [Ent.cells, u8l_app, List.drop_left' (by rw [u8l_len, ok.k.1]), List.take_length]
theorem kv_k {e : Ent} (ok : e.Ok) (j : Nat) (hj : j < 40) : e.kv.getD j 0 = e.k.getD j 0 := by
  have := ok.k.1
  rw [Ent.kv, List.getD_eq_getElem?_getD, List.getD_eq_getElem?_getD, List.getElem?_append_left (by omega)]
theorem kv_v {e : Ent} (ok : e.Ok) (j : Nat) : e.kv.getD (40 + j) 0 = e.v.getD j 0 := by
  have := ok.k.1
  rw [Ent.kv, List.getD_eq_getElem?_getD, List.getD_eq_getElem?_getD, List.getElem?_append_right (by omega), this, Nat.add_sub_cancel_left]
theorem u8l_at {n : Nat} {xs : List Int} (h : Bytes n xs) (j : Nat) (hj : j < n) : (u8l xs)[j]? = some (.int .u8 (xs.getD j 0)) := by
  rw [u8l, List.getElem?_map, List.getD_eq_getElem?_getD, List.getElem?_eq_getElem (by rw [h.1]; exact hj)]
  rfl
theorem u8l_atN {n : Nat} {xs : List Int} (h : Bytes n xs) (j : Nat) (hj : j < n) : (u8l xs)[j]? = some (.int .u8 ((xs.getD j 0).toNat : Nat)) := by
  rw [u8l_at h j hj]
  have := getD_byte h j
  congr 2
  omega
theorem k0_byte {e : Ent} (ok : e.Ok) : (u8l e.k)[0]? = some (.int .u8 e.kd) := by
  rw [u8l_at ok.k 0 (by omega), Ent.kd, kv_k ok 0 (by omega)]
theorem e8_k {e : Ent} (ok : e.Ok) (o : Nat) (ho : o + 4 ≤ 40) : e8 e.kv o = e8 e.k o := by
  have h : ∀ i, i < 4 → e.kv.getD (o + i) 0 = e.k.getD (o + i) 0 := fun i hi => kv_k ok _ (by omega)
  simp only [e8, num, h 0 (by omega), h 1 (by omega), h 2 (by omega), h 3 (by omega)]
theorem e8_v {e : Ent} (ok : e.Ok) (o : Nat) : e8 e.kv (40 + o) = e8 e.v o := by
  have h : ∀ i, e.kv.getD (40 + o + i) 0 = e.v.getD (o + i) 0 := fun i => by rw [Nat.add_assoc]; exact kv_v ok _
  simp only [e8, num, h 0, h 1, h 2, h 3]
/-- number: what four bytes of a block say. -/
theorem number24e {n0 : Nat} {xs : List Int} (hb : Bytes n0 xs) {W w : World} {L : List (Nat × List Value × TypeId)} (M : Mem W w L) (i : Nat) {b : Nat} {t : TypeId} (hi : L[i]? = some (b, u8l xs, t)) (off n c : Nat) (hn : 4 ≤ n) (ho : off + 4 ≤ n0) :
    Calls Try.prog 24 #[.slice (some ⟨b, off, none⟩) n c] w fun r w' => r = .returned (.int .i64 (e8 xs off)) ∧ ∃ m, w' = w.drewN m :=
  number24 (fun i => (xs.getD (off + i) 0).toNat) b off n c w (fun i => getD_nat hb _) hn fun j hj => M.cell i hi (off + j) (u8l_atN hb (off + j) (by omega))
theorem Mem.perm {W w : World} {L L' : List (Nat × List Value × TypeId)} (h : Mem W w L) (hp : L.Perm L') : Mem W w L' :=
  ⟨h.below, fun x hx => h.fresh x (hp.mem_iff.2 hx), (hp.map _).nodup_iff.1 h.dist, fun x hx => h.has x (hp.mem_iff.2 hx)⟩
/-- What stands behind an item's key when nothing is said. -/
def itC : List Value := List.replicate 6 (.int .i64 0) ++ (zb 32 ++ [.int .i64 0, .int .i64 0])
theorem it1_put {e : Ent} (ok : e.Ok) : splice ([.int .u8 1] ++ (pz 32 e.it1.key ++ itC)) 33 e.it1.pl = e.it1.cells := by
  have hk := (it1_ok ok).key.1
  have e1 : [Value.int .u8 1] ++ (pz 32 e.it1.key ++ itC) = ([.int .u8 1] ++ u8l e.it1.key) ++ ([.int .i64 0, .int .i64 0, .int .i64 0, .int .i64 0] ++ ([.int .i64 0, .int .i64 0] ++ (zb 32 ++ [.int .i64 0, .int .i64 0]))) := by
    simp [pz, hk, itC, zb, List.replicate]
  rw [e1, splice_mid _ _ _ _ 33 (by simp [u8l_len, hk]) (by simp [Itm.pl])]
  simp only [Itm.cells, Ent.it1, Itm.pl, Itm.sl, u8l_zb]
  simp
theorem it2_head (sn un : Int) : splice (splice (zI 2) 37 [.int .i64 sn]) 38 [.int .i64 un] = ([.int .u8 2] ++ zb 32 ++ [.int .i64 0, .int .i64 0, .int .i64 0, .int .i64 0, .int .i64 sn, .int .i64 un]) ++ (zb 32 ++ [.int .i64 0, .int .i64 0]) := by
  have e : zI 2 = ([.int .u8 2] ++ zb 32 ++ [.int .i64 0, .int .i64 0, .int .i64 0, .int .i64 0]) ++ ([.int .i64 0] ++ ([.int .i64 0] ++ (zb 32 ++ [.int .i64 0, .int .i64 0]))) := by
    rw [zI_parts]; simp
  rw [e, splice_mid _ _ _ _ 37 (by simp [zb_len]) (by simp), ← List.append_assoc, splice_mid _ _ _ _ 38 (by simp [zb_len]) (by simp)]
  simp
theorem it2_put {e : Ent} (ok : e.Ok) : splice (splice (([.int .u8 2] ++ zb 32 ++ [.int .i64 0, .int .i64 0, .int .i64 0, .int .i64 0, .int .i64 e.it2.sn, .int .i64 e.it2.un]) ++ (pz 32 e.it2.skey ++ [.int .i64 0, .int .i64 0])) 71 [.int .i64 e.it2.so]) 72 [.int .i64 e.it2.sm] = e.it2.cells := by
  have hk := (it2_ok ok).skey.1
  have e1 : ∀ H : List Value, H ++ (pz 32 e.it2.skey ++ [Value.int .i64 0, Value.int .i64 0]) = (H ++ u8l e.it2.skey) ++ ([.int .i64 0] ++ ([.int .i64 0] ++ [])) := by
    intro H; simp [pz, hk, zb]
  rw [e1, splice_mid _ _ _ _ 71 (by simp [u8l_len, hk, zb_len]) (by simp), ← List.append_assoc _ _ ([Value.int .i64 0] ++ []), splice_mid _ _ _ _ 72 (by simp [u8l_len, hk, zb_len]) (by simp)]
  simp only [Itm.cells, Ent.it2, Itm.sl, u8l_zb]
  simp
theorem itN_put (kd sn : Int) : splice (zI kd) 37 [.int .i64 sn] = (itN kd sn).cells := by
  have e : zI kd = ([.int .u8 kd] ++ zb 32 ++ [.int .i64 0, .int .i64 0, .int .i64 0, .int .i64 0]) ++ ([.int .i64 0] ++ ([.int .i64 0] ++ ((zb 32 ++ [.int .i64 0, .int .i64 0]) ++ []))) := by
    rw [zI_parts]; simp
  rw [e, splice_mid _ _ _ _ 37 (by simp [zb_len]) (by simp)]
  simp only [Itm.cells, itN, Itm.sl, u8l_zb]
  simp
theorem key_cell {e : Ent} (ok : e.Ok) (n : Nat) (x : Int) (hn : n < 32) (hx : e.it1.key[n]? = some x) : (u8l e.k)[n + 1]? = some (.int .u8 x) := by
  have h : e.kv[1 + n]? = some x := by
    have : ((e.kv.drop 1).take 32)[n]? = some x := hx
    rw [List.getElem?_take, if_pos hn, List.getElem?_drop] at this
    exact this
  rw [Ent.kv, List.getElem?_append_left (by have := ok.k.1; omega), Nat.add_comm] at h
  simp [u8l, h]
theorem skey_cell {e : Ent} (ok : e.Ok) (n : Nat) (x : Int) (hn : n < 32) (hx : e.it2.skey[n]? = some x) : (u8l e.v)[n]? = some (.int .u8 x) := by
  have h : e.kv[40 + n]? = some x := by
    have : ((e.kv.drop 40).take 32)[n]? = some x := hx
    rw [List.getElem?_take, if_pos hn, List.getElem?_drop] at this
    exact this
  rw [Ent.kv, List.getElem?_append_right (by have := ok.k.1; omega), ok.k.1, Nat.add_sub_cancel_left] at h
  simp [u8l, h]
theorem v_cell {e : Ent} (ok : e.Ok) (j : Nat) (hj : j < 40) : (u8l e.v)[j]? = some (.int .u8 (e.kv.getD (40 + j) 0)) := by
  rw [kv_v ok]; exact u8l_at ok.v j hj
theorem so_wrap {e : Ent} (ok : e.Ok) : IntKind.i64.wrap e.it2.so = e.it2.so := by
  have := getD_byte (Ent.kv_bytes ok) 72
  rw [IntKind.wrap_i64]
  simp only [Ent.it2]
  omega
theorem sm_wrap {e : Ent} (ok : e.Ok) : IntKind.i64.wrap e.it2.sm = e.it2.sm := by
  have := getD_byte (Ent.kv_bytes ok) 73
  rw [IntKind.wrap_i64]
  simp only [Ent.it2]
  omega
theorem it_1 {e : Ent} (h : e.kd = 1) : e.it = e.it1 := if_pos h
theorem it_2 {e : Ent} (h : e.kd = 2) : e.it = e.it2 := (if_neg (by omega)).trans (if_pos h)
theorem itemOut_t1 {e : Ent} (h : e.kd = 1) (h1 : e.it1.right = true) (h2 : e.it1.ent.kv = e.kv) : itemOut e = .tuple #[.agg e.it1.cells.toArray, .int .i64 0] := by
  rw [← it_1 h] at *; exact itemOut_t h1 h2
theorem itemOut_f1 {e : Ent} (h : e.kd = 1) (h1 : ¬ (e.it1.right = true ∧ e.it1.ent.kv = e.kv)) : itemOut e = .tuple #[.agg (zI 0).toArray, .int .i64 4] := by
  rw [← it_1 h] at *; exact itemOut_f h1
theorem itemOut_t2 {e : Ent} (h : e.kd = 2) (h1 : e.it2.right = true) (h2 : e.it2.ent.kv = e.kv) : itemOut e = .tuple #[.agg e.it2.cells.toArray, .int .i64 0] := by
  rw [← it_2 h] at *; exact itemOut_t h1 h2
theorem itemOut_f2 {e : Ent} (h : e.kd = 2) (h1 : ¬ (e.it2.right = true ∧ e.it2.ent.kv = e.kv)) : itemOut e = .tuple #[.agg (zI 0).toArray, .int .i64 4] := by
  rw [← it_2 h] at *; exact itemOut_f h1
theorem itN_right {kd sn : Int} (n1 : kd ≠ 1) (n2 : kd ≠ 2) (h : (itN kd sn).right = true) : kd = 3 := by
  by_cases h3 : kd = 3
  · exact h3
  · rw [Itm.right0 (i := itN kd sn) n1 n2 h3] at h
    cases h
theorem itemOut_tN {e : Ent} {kd : Int} (h : e.kd = kd) (n1 : kd ≠ 1) (n2 : kd ≠ 2) (h1 : (itN kd (e8 e.kv 1)).right = true) (h2 : (itN kd (e8 e.kv 1)).ent.kv = e.kv) : itemOut e = .tuple #[.agg (itN kd (e8 e.kv 1)).cells.toArray, .int .i64 0] := by
  have h3 := itN_right n1 n2 h1
  subst h3
  have hi : e.it = itN 3 (e8 e.kv 1) := (if_neg (by omega)).trans ((if_neg (by omega)).trans (if_pos h))
  rw [← hi] at h1 h2 ⊢; exact itemOut_t h1 h2
theorem itemOut_fN {e : Ent} {kd : Int} (h : e.kd = kd) (n1 : kd ≠ 1) (n2 : kd ≠ 2) (h1 : ¬ ((itN kd (e8 e.kv 1)).right = true ∧ (itN kd (e8 e.kv 1)).ent.kv = e.kv)) : itemOut e = .tuple #[.agg (zI 0).toArray, .int .i64 4] := by
  by_cases h3 : kd = 3
  · subst h3
    have hi : e.it = itN 3 (e8 e.kv 1) := (if_neg (by omega)).trans ((if_neg (by omega)).trans (if_pos h))
    rw [← hi] at h1; exact itemOut_f h1
  · refine itemOut_f fun q => h3 ?_
    have hi : e.it = itN kd 0 := (if_neg (by omega)).trans ((if_neg (by omega)).trans ((if_neg (by omega)).trans (by rw [h])))
    rw [hi] at q
    exact itN_right n1 n2 q.1
end Go.Proofs.Ytmckngkmlhemoaa
