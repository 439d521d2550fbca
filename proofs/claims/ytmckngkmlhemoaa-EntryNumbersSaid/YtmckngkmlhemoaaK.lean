/- Items and entries as lists of numbers (layer 14, entry); what is a right item; four bytes in a block. -/
import Derived.Test.YtmckngkmlhemoaaMem
import Derived.Test.YtmckngkmlhemoaaJ
namespace Go.Proofs.Ytmckngkmlhemoaa
open Go.RowKit
/-- Bytes as cells. -/
def u8l (xs : List Int) : List Value := xs.map (.int .u8)
theorem u8l_len (xs : List Int) : (u8l xs).length = xs.length := by simp [u8l]
theorem u8l_app (xs ys : List Int) : u8l (xs ++ ys) = u8l xs ++ u8l ys := by simp [u8l]
theorem u8l_zero (n : Nat) : u8l (List.replicate n 0) = List.replicate n (.int .u8 0) := by simp [u8l]
theorem u8l_one {xs : List Int} : ∀ v ∈ u8l xs, v.oneCell' = true := by
  intro v hv
  obtain ⟨x, _, rfl⟩ := List.mem_map.1 hv
  rfl
theorem u8l_inj {xs ys : List Int} (h : u8l xs = u8l ys) : xs = ys := by
  have := congrArg (List.map fun v => match v with | Value.int _ z => z | _ => 0) h
  simpa [u8l, Function.comp_def] using this
/-- Are these bytes? -/
def Bytes (n : Nat) (xs : List Int) : Prop := xs.length = n ∧ ∀ x ∈ xs, 0 ≤ x ∧ x < 256
theorem wf_u8 {x : Int} : (Lit.int .u8 x).wf = true ↔ 0 ≤ x ∧ x < 256 := by
  have e1 : IntKind.u8.min = 0 := rfl
  have e2 : IntKind.u8.max = 255 := rfl
  simp only [Lit.wf, e1, e2, decide_eq_true_eq, Bool.and_eq_true]
  omega
theorem fits_cons {cs : List Value} {k : IntKind} {ks : List IntKind} (h : Fits cs (k :: ks)) : ∃ z r, cs = .int k z :: r ∧ (Lit.int k z).wf = true ∧ Fits r ks := by
  cases cs with
  | nil => exact h.elim
  | cons v r =>
    obtain ⟨⟨z, rfl, hz⟩, hr⟩ := h
    exact ⟨z, r, rfl, hz, hr⟩
theorem fits_nil {cs : List Value} (h : Fits cs []) : cs = [] := by
  cases cs with
  | nil => rfl
  | cons v r => exact h.elim
theorem fits_u8l : ∀ {n : Nat} {xs : List Int}, Bytes n xs → Fits (u8l xs) (List.replicate n .u8)
  | 0, [], _ => trivial
  | 0, _ :: _, h => by simp [Bytes] at h
  | _ + 1, [], h => by simp [Bytes] at h
  | n + 1, x :: xs, h => by
    obtain ⟨h1, h2⟩ := h
    exact ⟨⟨x, rfl, wf_u8.2 (h2 x List.mem_cons_self)⟩, fits_u8l (n := n) (xs := xs) ⟨by simpa using h1, fun y hy => h2 y (List.mem_cons_of_mem _ hy)⟩⟩
theorem u8l_of_fits : ∀ {n : Nat} {cs : List Value}, Fits cs (List.replicate n .u8) → ∃ xs, Bytes n xs ∧ cs = u8l xs
  | 0, [], _ => ⟨[], ⟨rfl, by simp⟩, rfl⟩
  | 0, _ :: _, h => h.elim
  | n + 1, [], h => h.elim
  | n + 1, v :: cs, h => by
    obtain ⟨⟨x, rfl, hx⟩, h2⟩ := h
    obtain ⟨xs, hb, rfl⟩ := u8l_of_fits (n := n) (cs := cs) h2
    refine ⟨x :: xs, ⟨by simp [hb.1], fun y hy => ?_⟩, rfl⟩
    rcases List.mem_cons.1 hy with rfl | hy
    · exact wf_u8.1 hx
    · exact hb.2 y hy
/-- An item. -/
structure Itm where
  kind : Int
  key : List Int
  pa : Int
  ps : Int
  pu : Int
  pr : Int
  sn : Int
  un : Int
  skey : List Int
  so : Int
  sm : Int
def Itm.sl (i : Itm) : List Value := u8l i.skey ++ [.int .i64 i.so, .int .i64 i.sm]
def Itm.pl (i : Itm) : List Value := [.int .i64 i.pa, .int .i64 i.ps, .int .i64 i.pu, .int .i64 i.pr]
def Itm.cells (i : Itm) : List Value := .int .u8 i.kind :: (u8l i.key ++ [.int .i64 i.pa, .int .i64 i.ps, .int .i64 i.pu, .int .i64 i.pr, .int .i64 i.sn, .int .i64 i.un] ++ i.sl)
def okI (x : Int) : Prop := (Lit.int .i64 x).wf = true
structure Itm.Ok (i : Itm) : Prop where
  kind : 0 ≤ i.kind ∧ i.kind < 256
  key : Bytes 32 i.key
  pa : okI i.pa
  ps : okI i.ps
  pu : okI i.pu
  pr : okI i.pr
  sn : okI i.sn
  un : okI i.un
  skey : Bytes 32 i.skey
  so : okI i.so
  sm : okI i.sm
theorem Itm.fitsS {i : Itm} (h : i.Ok) : Fits i.sl sliceK := (fits_u8l h.skey).join ⟨⟨_, rfl, h.so⟩, ⟨_, rfl, h.sm⟩, trivial⟩
theorem Itm.fitsP {i : Itm} (h : i.Ok) : Fits i.pl placeK := ⟨⟨_, rfl, h.pa⟩, ⟨_, rfl, h.ps⟩, ⟨_, rfl, h.pu⟩, ⟨_, rfl, h.pr⟩, trivial⟩
theorem Itm.fits {i : Itm} (h : i.Ok) : Fits i.cells itemK := by
  refine ⟨⟨_, rfl, wf_u8.2 h.kind⟩, Fits.join ?_ (fitsS h)⟩
  have e : keyK ++ placeK ++ [IntKind.i64, IntKind.i64] = keyK ++ (placeK ++ [IntKind.i64, IntKind.i64]) := by simp
  rw [e]
  exact (fits_u8l h.key).join ⟨⟨_, rfl, h.pa⟩, ⟨_, rfl, h.ps⟩, ⟨_, rfl, h.pu⟩, ⟨_, rfl, h.pr⟩, ⟨_, rfl, h.sn⟩, ⟨_, rfl, h.un⟩, trivial⟩
theorem Itm.is {i : Itm} (h : i.Ok) : ItemIs i.cells.toArray i.kind (u8l i.key) i.pa i.ps i.pu i.pr i.sn i.un i.sl i.so i.sm :=
  ⟨rfl, by rw [u8l_len, h.key.1], by simp [Itm.sl, u8l_len, h.skey.1], by simp [Itm.sl, u8l_len, h.skey.1], by simp [Itm.sl, u8l_len, h.skey.1]⟩
theorem Itm.len {i : Itm} (h : i.Ok) : i.cells.length = 73 := by rw [(Itm.fits h).length]; rfl
/-- An argument's cells are an item's. -/
theorem item_of_fits {cs : List Value} (h : Fits cs itemK) : ∃ i : Itm, i.Ok ∧ cs = i.cells := by
  match cs, h with
  | v :: cs, h =>
    obtain ⟨⟨kd, rfl, hkd⟩, h⟩ := h
    have e : keyK ++ placeK ++ [IntKind.i64, IntKind.i64] ++ sliceK = keyK ++ ([IntKind.i64, .i64, .i64, .i64, .i64, .i64] ++ (keyK ++ [IntKind.i64, .i64])) := by simp [placeK, sliceK, List.replicate]
    rw [e] at h
    obtain ⟨h1, h⟩ := h.split
    obtain ⟨h2, h⟩ := h.split
    obtain ⟨h3, h4⟩ := h.split
    obtain ⟨key, hk, e1⟩ := u8l_of_fits (n := 32) h1
    obtain ⟨skey, hs, e3⟩ := u8l_of_fits (n := 32) h3
    have e0 : cs = cs.take 32 ++ ((cs.drop 32).take 6 ++ (((cs.drop 32).drop 6).take 32 ++ ((cs.drop 32).drop 6).drop 32)) := by
      rw [List.take_append_drop, List.take_append_drop, List.take_append_drop]
    simp only [keyK, List.length_replicate, List.length_cons, List.length_nil, Nat.zero_add, Nat.reduceAdd] at h2 h4 e1 e3
    generalize (cs.drop 32).take 6 = A at *
    generalize ((cs.drop 32).drop 6).drop 32 = B at *
    obtain ⟨x1, A, r1, y1, h2⟩ := fits_cons h2
    obtain ⟨x2, A, r2, y2, h2⟩ := fits_cons h2
    obtain ⟨x3, A, r3, y3, h2⟩ := fits_cons h2
    obtain ⟨x4, A, r4, y4, h2⟩ := fits_cons h2
    obtain ⟨x5, A, r5, y5, h2⟩ := fits_cons h2
    obtain ⟨x6, A, r6, y6, h2⟩ := fits_cons h2
    obtain ⟨z1, B, s1, t1, h4⟩ := fits_cons h4
    obtain ⟨z2, B, s2, t2, h4⟩ := fits_cons h4
    refine ⟨⟨kd, key, x1, x2, x3, x4, x5, x6, skey, z1, z2⟩, ⟨wf_u8.1 hkd, hk, y1, y2, y3, y4, y5, y6, hs, t1, t2⟩, ?_⟩
    rw [e0, e1, e3, r1, r2, r3, r4, r5, r6, fits_nil h2, s1, s2, fits_nil h4]
    simp [Itm.cells, Itm.sl]
/-- What is a right item. -/
def Itm.right (i : Itm) : Bool :=
  if i.kind = 1 then placeB i.pa i.ps i.pu i.pr true && i.sn == 0 && i.un == 0 && zeroB i.sl
  else if i.kind = 2 then inB i.sn 0 1073741824 && inB i.un 0 511 && (inB i.so 0 15 && inB i.sm 1 255) && zeroB (u8l i.key) && zeroB i.pl
  else if i.kind = 3 then inB i.sn 1 1073741824 && i.un == 0 && zeroB i.sl && zeroB (u8l i.key) && zeroB i.pl
  else false
set_option maxRecDepth 100000 in
set_option maxHeartbeats 1000000 in
theorem right21_0 (i : Itm) (ok : i.Ok) (w : World) (h1 : i.kind ≠ 1) (h2 : i.kind ≠ 2) (h3 : i.kind ≠ 3) :
    Calls Try.prog 21 #[.agg i.cells.toArray] w fun e w' => e = .returned (.bool false) ∧ Below w.heap.size w w' := by
  obtain ⟨c0, _⟩ := (Itm.is ok).at_ (heap_new w (.cells i.cells.toArray 30))
  have HW := Lib.hid ((Below.refl _ w).alloc (Nat.le_refl w.heap.size) (.cells i.cells.toArray 30))
  have t1 : decide (i.kind = 1) = false := by simp [h1]
  have t2 : decide (i.kind = 2) = false := by simp [h2]
  have t3 : decide (i.kind = 3) = false := by simp [h3]
  obtain ⟨kd, hkd⟩ : ∃ kd, kd = i.kind := ⟨_, rfl⟩
  obtain ⟨cs, hcs⟩ : ∃ cs, cs = i.cells.toArray := ⟨_, rfl⟩
  rw [← hkd] at h1 h2 h3 c0 t1 t2 t3
  rw [← hcs] at c0 HW ⊢
  clear hcs hkd ok
  go_enter Try.func21, Try.ntmps21
  go_wp2_with fail
  go_ret
  exact ⟨rfl, HW.out⟩
theorem Itm.right1 {i : Itm} (h : i.kind = 1) : i.right = (placeB i.pa i.ps i.pu i.pr true && i.sn == 0 && i.un == 0 && zeroB i.sl) := by
  unfold Itm.right; exact if_pos h
theorem Itm.right2 {i : Itm} (h : i.kind = 2) : i.right = (inB i.sn 0 1073741824 && inB i.un 0 511 && (inB i.so 0 15 && inB i.sm 1 255) && zeroB (u8l i.key) && zeroB i.pl) := by
  unfold Itm.right; rw [if_neg (by omega)]; exact if_pos h
theorem Itm.right3 {i : Itm} (h : i.kind = 3) : i.right = (inB i.sn 1 1073741824 && i.un == 0 && zeroB i.sl && zeroB (u8l i.key) && zeroB i.pl) := by
  unfold Itm.right; rw [if_neg (by omega), if_neg (by omega)]; exact if_pos h
theorem Itm.right0 {i : Itm} (h1 : i.kind ≠ 1) (h2 : i.kind ≠ 2) (h3 : i.kind ≠ 3) : i.right = false := by
  unfold Itm.right; rw [if_neg h1, if_neg h2]; exact if_neg h3
theorem right21 (i : Itm) (ok : i.Ok) (w : World) : Calls Try.prog 21 #[.agg i.cells.toArray] w fun e w' => e = .returned (.bool i.right) ∧ Below w.heap.size w w' := by
  have hi := Itm.is ok
  have hs := Itm.fitsS ok
  have hp := Itm.fitsP ok
  have hk := fits_u8l ok.key
  obtain ⟨cs, hcs⟩ : ∃ cs, cs = i.cells.toArray := ⟨_, rfl⟩
  by_cases h1 : i.kind = 1
  · have h := right21_1 cs (u8l i.key) i.pa i.ps i.pu i.pr i.sn i.un i.sl i.so i.sm w (by rw [← h1, hcs]; exact hi) hs
    rw [← Itm.right1 h1, hcs] at h
    exact h
  by_cases h2 : i.kind = 2
  · have h := right21_2 cs (u8l i.key) i.pa i.ps i.pu i.pr i.sn i.un i.sl i.so i.sm w (by rw [← h2, hcs]; exact hi) hs hk hp
    have e := Itm.right2 h2
    rw [Itm.pl] at e
    rw [← e, hcs] at h
    exact h
  by_cases h3 : i.kind = 3
  · have h := right21_3 cs (u8l i.key) i.pa i.ps i.pu i.pr i.sn i.un i.sl i.so i.sm w (by rw [← h3, hcs]; exact hi) hs hk hp
    have e := Itm.right3 h3
    rw [Itm.pl] at e
    rw [← e, hcs] at h
    exact h
  · rw [Itm.right0 h1 h2 h3]
    exact right21_0 i ok w h1 h2 h3
/-- An entry. -/
structure Ent where
  k : List Int
  v : List Int
def Ent.cells (e : Ent) : List Value := u8l (e.k ++ e.v)
structure Ent.Ok (e : Ent) : Prop where
  k : Bytes 40 e.k
  v : Bytes 40 e.v
theorem Ent.fits {e : Ent} (h : e.Ok) : Fits e.cells entryK := by
  rw [Ent.cells, u8l_app]
  exact (fits_u8l h.k).join (fits_u8l h.v)
theorem ent_of_fits {cs : List Value} (h : Fits cs entryK) : ∃ e : Ent, e.Ok ∧ cs = e.cells := by
  obtain ⟨h1, h2⟩ := Fits.split (k1 := tkeyK) (k2 := tkeyK) h
  obtain ⟨k, hk, e1⟩ := u8l_of_fits (n := 40) h1
  obtain ⟨v, hv, e2⟩ := u8l_of_fits (n := 40) h2
  refine ⟨⟨k, v⟩, ⟨hk, hv⟩, ?_⟩
  rw [Ent.cells, u8l_app, ← e1, ← e2, List.take_append_drop]
/-- Four bytes of a number. -/
def fourL (n : Int) : List Int := [b4 n 0, b4 n 1, b4 n 2, b4 n 3]
theorem fourL_bytes (n : Int) : Bytes 4 (fourL n) := ⟨rfl, by
  intro x hx
  simp [fourL] at hx
  rcases hx with rfl | rfl | rfl | rfl <;> exact b4_bd _ _⟩
theorem four_sets {α : Type} (cs : List α) (off : Nat) (a b c d : α) (h : off + 4 ≤ cs.length) : (((cs.set off a).set (off + 1) b).set (off + 2) c).set (off + 3) d = splice cs off [a, b, c, d] := by
  obtain ⟨A, B, rfl, hA⟩ : ∃ A B, cs = A ++ B ∧ A.length = off := ⟨cs.take off, cs.drop off, (List.take_append_drop _ _).symm, by simp; omega⟩
  subst hA
  rcases B with _ | ⟨x1, _ | ⟨x2, _ | ⟨x3, _ | ⟨x4, B⟩⟩⟩⟩
  · simp at h; omega
  · simp at h
  · simp at h
  · simp at h
  · simp [splice, List.drop_append]
theorem put4_splice (cs : List Value) (off : Nat) (n : Int) (h : off + 4 ≤ cs.length) : put4 cs.toArray off n 4 = (splice cs off (u8l (fourL n))).toArray := by
  have e : u8l (fourL n) = [.int .u8 (b4 n 0), .int .u8 (b4 n 1), .int .u8 (b4 n 2), .int .u8 (b4 n 3)] := rfl
  rw [e, ← four_sets cs off _ _ _ _ h]
  show (((cs.toArray.setIfInBounds (off + 0) _).setIfInBounds (off + 1) _).setIfInBounds (off + 2) _).setIfInBounds (off + 3) _ = _
  simp only [List.setIfInBounds_toArray, Nat.add_zero]
end Go.Proofs.Ytmckngkmlhemoaa
