/- Layer 24 (refs): the document's add: a key's sum grows in a row that rises. -/
import Derived.Test.YtblfkngdieffiaaAc
import Derived.Test.YtblfkngdieffiaaBkC
import Derived.Test.YtblfkngdieffiaaRr
namespace Go.Proofs.Ytblfkngdieffiaa
open Go.RowKit Go.Maps Go.WideMaps
def kindsK : List IntKind := List.replicate 32 .u8
theorem leafsK : leafs Try.prog 5 35 = some kindsK := by kernel_rfl
theorem keyKt : Try.prog.keyTypeAt 5 35 = true := by kernel_rfl
theorem eqgK : Try.prog.eqGuardType Try.prog.depth 35 = false := by kernel_rfl
theorem eqK {a b : List Int} (ha : KeyOk 32 a) (hb : KeyOk 32 b) (w : World) : EqRun Try.prog 35 (u8l a).toArray (u8l b).toArray w (decide (a = b)) := by
  obtain ⟨r, hr, hiff⟩ := eql_fits (P := Try.prog) (t := 35) (m := 5) (d := 5) (by omega) keyKt leafsK (xs := (u8l a).toArray) (ys := (u8l b).toArray) (by simp [Value.formed, Try.underlying35, u8l_len, ha.len]; kernel_rfl) (by simp [Value.formed, Try.underlying35, u8l_len, hb.len]; kernel_rfl) (fits_u8l ha) (fits_u8l hb) w
  have : r = decide (a = b) := by
    cases r with
    | true =>
      have := hiff.1 rfl
      have : a = b := u8l_inj (by simpa using this)
      simp [this]
    | false =>
      have h2 : ¬ a = b := fun e => by
        subst e
        have := hiff.2 rfl
        cases this
      simp [h2]
  rw [← this]
  exact ⟨hr⟩
def AddOut (L : Nat → ElC) (n base : Nat) (k : List Int) (x : Int) (e : Ending) (w w' : World) : Prop :=
  ∃ (M : Nat → ElC) (m : Nat) (v' : Value), e = .returned v' ∧ lst M m = addC (lst L n) k x ∧ m ≤ n + 1 ∧ w'.ownsRow base 45 33 v' m (flatS (fun i => cellsC (M i)) m) ∧ Below base w w'
theorem enter32 : ∀ args w, (callFunc 32 args).run Try.prog w = .ok (.enter 32 args) w := enters_of Try.func32 (by kernel_rfl) rfl
theorem own_at {w : World} {base g c n : Nat} {L : Nat → ElC} (h : w.ownsRow base 45 33 (.slice (some ⟨g, 0, none⟩) n c) n (flatS (fun i => cellsC (L i)) n)) {j : Nat} (hj : j < n) : w.rangeAt g (j * 33) (cellsC (L j)) := by
  intro q v hq
  have hlt : q < 33 := by rw [← lenC (L j)]; exact (List.getElem?_eq_some_iff.1 hq).1
  rw [h.cellAt (j * 33 + q) (by have := Nat.mul_le_mul_right 33 (show j + 1 ≤ n from hj); omega), flatS_at (fun i => lenC _) hlt hj]
  exact hq
theorem ct_k' (c : ElC) {w : World} {b o : Nat} (h : w.rangeAt b o (cellsC c)) : w.rangeAt b o (u8l c.1.k) := by
  intro j v hj
  have hlt : j < 32 := by rw [← c.2.key.len, ← u8l_len]; exact (List.getElem?_eq_some_iff.1 hj).1
  refine h j v ?_
  unfold cellsC
  rw [List.getElem?_append_left (by rw [u8l_len, c.2.key.len]; exact hlt)]
  exact hj
theorem ct_r' (c : ElC) {w : World} {b o : Nat} (h : w.rangeAt b o (cellsC c)) : w.cell? ⟨b, o + 32, none⟩ = some (.int .i64 c.1.r) := by
  refine h 32 (.int .i64 c.1.r) ?_
  unfold cellsC
  rw [List.getElem?_append_right (by rw [u8l_len, c.2.key.len]; omega), u8l_len, c.2.key.len]
  rfl
theorem range_below {w w' : World} {b o B : Nat} {cs : List Value} (h : w.rangeAt b o cs) (hb : Below B w w') (hlt : b < B) : w'.rangeAt b o cs := fun j v hj => (World.cell?_of_block (hb.block b hlt)).trans (h j v hj)
theorem flat_ins (L : Nat → ElC) (c : ElC) {j n : Nat} (hj : j ≤ n) : flatS (fun i => cellsC (L i)) j ++ cellsC c ++ flatS (fun i => cellsC (L (j + i))) (n - j) = flatS (fun i => cellsC (insL L j c i)) (n + 1) := by
  have h1 : flatS (fun i => cellsC (L i)) j ++ cellsC c = flatS (fun i => cellsC (insL L j c i)) (j + 1) := by
    rw [flatS, flatS_congr (F := fun i => cellsC (insL L j c i)) (G := fun i => cellsC (L i)) fun i hi => by show cellsC (insL L j c i) = _; unfold insL; rw [if_pos hi]]
    have : insL L j c j = c := by unfold insL; rw [if_neg (by omega), if_pos rfl]
    rw [this]
  rw [h1, flatS_append]
  have e : j + 1 + (n - j) = n + 1 := by omega
  rw [e]
  refine flatS_congr fun i hi => ?_
  by_cases h : i < j + 1
  · rw [if_pos h]
  · rw [if_neg h]
    have : insL L j c i = L (i - 1) := by unfold insL; rw [if_neg (by omega), if_neg (by omega)]
    show _ = cellsC (insL L j c i)
    rw [this]
    congr 2
    omega
theorem cells_at_new (w : World) (cs : List Value) (t : TypeId) : ∀ j u, cs[j]? = some u → (w.alloc (.cells cs.toArray t)).cell? ((⟨w.heap.size, 0, none⟩ : Addr).add j) = some u := fun j u hj => by
  rw [Go.WideShapes.add_plain, Nat.zero_add]
  exact block_cell (heap_new w _) j u (by simpa using hj)
theorem buildCt0 (ks : List Int) (h : KeyOk 32 ks) (x : Int) (u : World) : BuildRun Try.prog 45 #[(0, kv ks), (1, .int .i64 x)] u (.agg (u8l ks ++ [Value.int .i64 x]).toArray) := buildCt ks h x u
theorem srow_drop {w : World} {B g n : Nat} {L : Nat → ElC} (h : SArr w B (some ⟨g, 0, none⟩) n 33 fun i => cellsC (L i)) (j : Nat) : SArr w B (some ⟨g, j * 33, none⟩) (n - j) 33 fun i => cellsC (L (j + i)) := fun hn => by
  obtain ⟨b, off, e, hb, hc⟩ := h (by omega)
  injection e with e
  injection e with e1 e2
  subst e1 e2
  refine ⟨_, _, rfl, hb, fun i hi => ?_⟩
  have := hc (j + i) (by omega)
  rwa [Nat.zero_add, Nat.add_mul] at this
theorem srow_own {w : World} {base g c n s : Nat} {e : TypeId} {F : Nat → List Value} (hs : Wide s F) (ho : w.ownsRow base e s (.slice (some ⟨g, 0, none⟩) n c) n (flatS F n)) : SArr w w.heap.size (some ⟨g, 0, none⟩) n s F := by
  obtain ⟨A, cap, e1, h, _⟩ := srow_arr hs ho
  injection e1 with e1
  rw [e1]; exact h
theorem setOut (L : Nat → ElC) (n base g c j : Nat) (k : List Int) (x : Int) (w w3 : World) (r : Int) (hj : j < n) (hlt : ∀ q, q < j → kLt (L q).1.k k = true) (hnl : kLt (L j).1.k k = false) (he : (L j).1.k = k) (hr : r = (L j).1.r) (hk : KeyOk 32 k)
    (ho : w3.ownsRow base 45 33 (.slice (some ⟨g, 0, none⟩) n c) n (flatS (fun i => cellsC (L i)) n)) (hb : Below base w w3) (hg : base ≤ g) :
    AddOut L n base k x (.returned (.slice (some ⟨g, 0, none⟩) n c)) w (w3.setCell ⟨g, j * 33 + 32, none⟩ (.int .i64 (wrap64 (r + x)))).drew := by
  let cn : ElC := ⟨⟨k, wrap64 (r + x)⟩, ⟨hk, wf_wrap _⟩⟩
  refine ⟨setL L j cn, n, _, rfl, addC_set hj hlt hnl he cn (by rw [← hr]), by omega, ?_, (hb.setCell hg _).drew⟩
  have h := (ho.stored (j * 33 + 32) (.int .i64 (wrap64 (r + x)))).1
  have e1 : (flatS (fun i => cellsC (L i)) n).set (j * 33 + 32) (.int .i64 (wrap64 (r + x))) = flatS (fun i => cellsC (setL L j cn i)) n := by
    refine flatS_set (s := 33) (fun i => lenC _) ?_ (by omega) (fun i hi => ?_) hj
    · show cellsC (setL L j cn j) = (cellsC (L j)).set 32 _
      unfold setL
      rw [if_pos rfl]
      unfold cellsC
      rw [List.set_append, if_neg (by rw [u8l_len, (L j).2.key.len]; omega), u8l_len, (L j).2.key.len, he]
      rfl
    · show cellsC (setL L j cn i) = _
      unfold setL
      rw [if_neg hi]
  rw [e1] at h
  exact h
set_option maxRecDepth 100000 in
set_option maxHeartbeats 8000000 in
theorem add24 (L : Nat → ElC) (n base : Nat) (v : Value) (k : List Int) (x : Int) (w : World) (hn : n ≤ 300000000000) (hbase : base ≤ w.heap.size) (hk : KeyOk 32 k) (hx : (Lit.int .i64 x).wf = true)
    (ho : w.ownsRow base 45 33 v n (flatS (fun i => cellsC (L i)) n)) : Calls Try.prog 24 #[v, kv k, .int .i64 x] w fun e w' => AddOut L n base k x e w w' := by
  obtain ⟨i0, hi, hz0, hz1, hz2⟩ := infoParts infoC
  have HI := Lib.hid (And.intro hi (And.intro hz0 (And.intro hz1 hz2)))
  clear hi hz0 hz1 hz2
  have HK := Lib.hid hk
  have HX := Lib.hid hx
  have HO := Lib.hid ho
  have HBS := Lib.hid hbase
  change Calls Try.prog 24 #[v, .agg (u8l k).toArray, .int .i64 x] w _
  obtain ⟨kc, hkc⟩ : ∃ kc, kc = (u8l k).toArray := ⟨_, rfl⟩
  rw [← hkc]
  have HKC := Lib.hid hkc
  obtain ⟨A, c, rfl⟩ := row_shapeS ho
  have HNC := Lib.hid (row_le_capS ho)
  have HKL : Hid ((Try.prog.info? 35).map (·.size) = some (u8l k).length) := Lib.hid (by rw [u8l_len, hk.len]; exact infoKey)
  clear hkc hk hx hbase
  cases A with
  | none =>
    obtain ⟨rfl, rfl⟩ := row_nilS ho rfl
    clear ho
    go_enter Try.func24, Try.ntmps24
    go_wp2_with fail
    obtain ⟨b4, hb4⟩ : ∃ b4, b4 = w.heap.size := ⟨_, rfl⟩
    obtain ⟨w1, hw1⟩ : ∃ w1, w1 = w.alloc (.cells kc 35) := ⟨_, rfl⟩
    rw [← hw1, ← hb4]
    have H1 : Hid (w1.heap[b4]? = some (.cells (u8l k).toArray 35)) := Lib.hid (by rw [hw1, hb4, HKC.out]; exact heap_new w _)
    have B1 : Hid (Below base w w1) := Lib.hid (by rw [hw1]; exact (Below.refl _ _).alloc HBS.out _)
    have HBB : Hid (base ≤ b4) := Lib.hid (by rw [hb4]; exact HBS.out)
    clear hw1 hb4
    go_loopw [7] (fun i wr => i = .int .i64 0 ∧ wr.heap[b4]? = some (.cells (u8l k).toArray 35) ∧ Below base w wr) (fun i _ => 0)
    case atStart => exact ⟨rfl, H1.out, B1.out⟩
    case round =>
      clear H1 B1
      obtain ⟨rfl, h4, hb⟩ := hrel
      have H4 := Lib.hid h4
      have BW := Lib.hid hb
      clear h4 hb
      go_wp2_with fail
      refine wp_region_held_drew (S := fun _ => True) (by kernel_rfl) trivial (fun hHeld => ?_)
      refine wpAnyH_take (i := 0) (v := ?_) (by simp only [List.getElem?_toArray, List.getElem?_cons_zero]; rfl) (by kernel_rfl) (by kernel_rfl) (by kernel_rfl) (by intro _ _ _ h; exact h) (Or.inl ⟨by rfl, ?_⟩) hHeld ?_
      rotate_left
      · (intro w hSw; (try dsimp only at hSw); go_simp; try with_reducible rfl)
      try simp only [Act.put, List.setIfInBounds_toArray, List.set_cons_zero, List.set_cons_succ]
      refine wpAnyH_take (i := 1) (v := ?_) (by simp only [List.getElem?_toArray, List.getElem?_cons_zero, List.getElem?_cons_succ]; rfl) (by kernel_rfl) (by kernel_rfl) (by kernel_rfl) (by intro _ _ _ h; exact h) (Or.inl ⟨by rfl, ?_⟩) hHeld ?_
      rotate_left
      · (intro w hSw; (try dsimp only at hSw); go_simp; try with_reducible rfl)
      try simp only [Act.put, List.setIfInBounds_toArray, List.set_cons_zero, List.set_cons_succ]
      refine wpAnyH_take (i := 2) (v := ?_) (by simp only [List.getElem?_toArray, List.getElem?_cons_zero, List.getElem?_cons_succ]; rfl) (by kernel_rfl) (by kernel_rfl) (by kernel_rfl) (by intro _ _ _ h; exact h) (Or.inl ⟨by rfl, ?_⟩) hHeld ?_
      rotate_left
      · (intro w hSw; (try dsimp only at hSw); go_simp; try with_reducible rfl)
      try simp only [Act.put, List.setIfInBounds_toArray, List.set_cons_zero, List.set_cons_succ]
      refine wpAnyH_take (i := 3) (v := ?_) (by simp only [List.getElem?_toArray, List.getElem?_cons_zero, List.getElem?_cons_succ]; rfl) (by kernel_rfl) (by kernel_rfl) (by kernel_rfl) (by intro _ _ _ h; exact h) (Or.inl ⟨by rfl, ?_⟩) hHeld ?_
      rotate_left
      · (intro w hSw; (try dsimp only at hSw); go_simp; try with_reducible rfl)
      try simp only [Act.put, List.setIfInBounds_toArray, List.set_cons_zero, List.set_cons_succ]
      refine wpAnyH_take (i := 4) (v := ?_) (by simp only [List.getElem?_toArray, List.getElem?_cons_zero, List.getElem?_cons_succ]; rfl) (by kernel_rfl) (by kernel_rfl) (by kernel_rfl) (by intro _ _ _ h; exact h) (Or.inl ⟨by rfl, ?_⟩) hHeld ?_
      rotate_left
      · (intro w hSw; (try dsimp only at hSw); go_simp; try with_reducible rfl)
      try simp only [Act.put, List.setIfInBounds_toArray, List.set_cons_zero, List.set_cons_succ]
      refine wpAnyH_take (i := 5) (v := undef) (by simp only [List.getElem?_toArray, List.getElem?_cons_zero, List.getElem?_cons_succ]; rfl) (by kernel_rfl) (by kernel_rfl) (by kernel_rfl) (by intro _ _ _ h; exact h) (Or.inr ⟨by rfl, rfl⟩) hHeld ?_
      try simp only [Act.put, List.setIfInBounds_toArray, List.set_cons_zero, List.set_cons_succ]
      refine wpAnyH_take (i := 6) (v := undef) (by simp only [List.getElem?_toArray, List.getElem?_cons_zero, List.getElem?_cons_succ]; rfl) (by kernel_rfl) (by kernel_rfl) (by kernel_rfl) (by intro _ _ _ h; exact h) (Or.inr ⟨by rfl, rfl⟩) hHeld ?_
      try simp only [Act.put, List.setIfInBounds_toArray, List.set_cons_zero, List.set_cons_succ]
      refine wpAnyH_take (i := 7) (v := undef) (by simp only [List.getElem?_toArray, List.getElem?_cons_zero, List.getElem?_cons_succ]; rfl) (by kernel_rfl) (by kernel_rfl) (by kernel_rfl) (by intro _ _ _ h; exact h) (Or.inr ⟨by rfl, rfl⟩) hHeld ?_
      try simp only [Act.put, List.setIfInBounds_toArray, List.set_cons_zero, List.set_cons_succ]
      refine wpAnyH_take (i := 8) (v := undef) (by simp only [List.getElem?_toArray, List.getElem?_cons_zero, List.getElem?_cons_succ]; rfl) (by kernel_rfl) (by kernel_rfl) (by kernel_rfl) (by intro _ _ _ h; exact h) (Or.inr ⟨by rfl, rfl⟩) hHeld ?_
      try simp only [Act.put, List.setIfInBounds_toArray, List.set_cons_zero, List.set_cons_succ]
      refine wpAnyH_take (i := 9) (v := undef) (by simp only [List.getElem?_toArray, List.getElem?_cons_zero, List.getElem?_cons_succ]; rfl) (by kernel_rfl) (by kernel_rfl) (by kernel_rfl) (by intro _ _ _ h; exact h) (Or.inr ⟨by rfl, rfl⟩) hHeld ?_
      try simp only [Act.put, List.setIfInBounds_toArray, List.set_cons_zero, List.set_cons_succ]
      refine wpAnyH_take (i := 10) (v := undef) (by simp only [List.getElem?_toArray, List.getElem?_cons_zero, List.getElem?_cons_succ]; rfl) (by kernel_rfl) (by kernel_rfl) (by kernel_rfl) (by intro _ _ _ h; exact h) (Or.inr ⟨by rfl, rfl⟩) hHeld ?_
      try simp only [Act.put, List.setIfInBounds_toArray, List.set_cons_zero, List.set_cons_succ]
      refine wpAnyH_take (i := 11) (v := undef) (by simp only [List.getElem?_toArray, List.getElem?_cons_zero, List.getElem?_cons_succ]; rfl) (by kernel_rfl) (by kernel_rfl) (by kernel_rfl) (by intro _ _ _ h; exact h) (Or.inr ⟨by rfl, rfl⟩) hHeld ?_
      try simp only [Act.put, List.setIfInBounds_toArray, List.set_cons_zero, List.set_cons_succ]
      refine wpAnyH_take (i := 12) (v := ?_) (by simp only [List.getElem?_toArray, List.getElem?_cons_zero, List.getElem?_cons_succ]; rfl) (by kernel_rfl) (by kernel_rfl) (by kernel_rfl) (by intro _ _ _ h; exact h) (Or.inl ⟨by rfl, ?_⟩) hHeld ?_
      rotate_left
      · (intro w hSw; (try dsimp only at hSw); go_simp; try with_reducible rfl)
      try simp only [Act.put, List.setIfInBounds_toArray, List.set_cons_zero, List.set_cons_succ]
      refine wpAnyH_done (by kernel_rfl) ?_ _
      clear hHeld
      go_wp2_with fail
      refine wp_region_held_drew (S := fun _ => True) (by kernel_rfl) trivial (fun hHeld => ?_)
      refine wpAnyH_take (i := 0) (v := ?_) (by simp only [List.getElem?_toArray, List.getElem?_cons_zero]; rfl) (by kernel_rfl) (by kernel_rfl) (by kernel_rfl) (by intro _ _ _ h; exact h) (Or.inl ⟨by rfl, ?_⟩) hHeld ?_
      rotate_left
      · (intro w hSw; (try dsimp only at hSw); go_simp; try with_reducible rfl)
      try simp only [Act.put, List.setIfInBounds_toArray, List.set_cons_zero, List.set_cons_succ]
      refine wpAnyH_take (i := 1) (v := ?_) (by simp only [List.getElem?_toArray, List.getElem?_cons_zero, List.getElem?_cons_succ]; rfl) (by kernel_rfl) (by kernel_rfl) (by kernel_rfl) (by intro _ _ _ h; exact h) (Or.inl ⟨by rfl, ?_⟩) hHeld ?_
      rotate_left
      · (intro w hSw; (try dsimp only at hSw); go_simp; try with_reducible rfl)
      try simp only [Act.put, List.setIfInBounds_toArray, List.set_cons_zero, List.set_cons_succ]
      refine wpAnyH_take (i := 2) (v := ?_) (by simp only [List.getElem?_toArray, List.getElem?_cons_zero, List.getElem?_cons_succ]; rfl) (by kernel_rfl) (by kernel_rfl) (by kernel_rfl) (by intro _ _ _ h; exact h) (Or.inl ⟨by rfl, ?_⟩) hHeld ?_
      rotate_left
      · (intro w hSw; (try dsimp only at hSw); go_simp; try with_reducible rfl)
      try simp only [Act.put, List.setIfInBounds_toArray, List.set_cons_zero, List.set_cons_succ]
      refine wpAnyH_take (i := 3) (v := ?_) (by simp only [List.getElem?_toArray, List.getElem?_cons_zero, List.getElem?_cons_succ]; rfl) (by kernel_rfl) (by kernel_rfl) (by kernel_rfl) (by intro _ _ _ h; exact h) (Or.inl ⟨by rfl, ?_⟩) hHeld ?_
      rotate_left
      · (intro w hSw; (try dsimp only at hSw); go_simp; try with_reducible rfl)
      try simp only [Act.put, List.setIfInBounds_toArray, List.set_cons_zero, List.set_cons_succ]
      refine wpAnyH_take (i := 4) (v := ?_) (by simp only [List.getElem?_toArray, List.getElem?_cons_zero, List.getElem?_cons_succ]; rfl) (by kernel_rfl) (by kernel_rfl) (by kernel_rfl) (by intro _ _ _ h; exact h) (Or.inl ⟨by rfl, ?_⟩) hHeld ?_
      rotate_left
      · (intro w hSw; (try dsimp only at hSw); go_simp; try with_reducible rfl)
      try simp only [Act.put, List.setIfInBounds_toArray, List.set_cons_zero, List.set_cons_succ]
      refine wpAnyH_take (i := 5) (v := undef) (by simp only [List.getElem?_toArray, List.getElem?_cons_zero, List.getElem?_cons_succ]; rfl) (by kernel_rfl) (by kernel_rfl) (by kernel_rfl) (by intro _ _ _ h; exact h) (Or.inr ⟨by rfl, rfl⟩) hHeld ?_
      try simp only [Act.put, List.setIfInBounds_toArray, List.set_cons_zero, List.set_cons_succ]
      refine wpAnyH_take (i := 6) (v := undef) (by simp only [List.getElem?_toArray, List.getElem?_cons_zero, List.getElem?_cons_succ]; rfl) (by kernel_rfl) (by kernel_rfl) (by kernel_rfl) (by intro _ _ _ h; exact h) (Or.inr ⟨by rfl, rfl⟩) hHeld ?_
      try simp only [Act.put, List.setIfInBounds_toArray, List.set_cons_zero, List.set_cons_succ]
      refine wpAnyH_take (i := 7) (v := undef) (by simp only [List.getElem?_toArray, List.getElem?_cons_zero, List.getElem?_cons_succ]; rfl) (by kernel_rfl) (by kernel_rfl) (by kernel_rfl) (by intro _ _ _ h; exact h) (Or.inr ⟨by rfl, rfl⟩) hHeld ?_
      try simp only [Act.put, List.setIfInBounds_toArray, List.set_cons_zero, List.set_cons_succ]
      refine wpAnyH_take (i := 8) (v := undef) (by simp only [List.getElem?_toArray, List.getElem?_cons_zero, List.getElem?_cons_succ]; rfl) (by kernel_rfl) (by kernel_rfl) (by kernel_rfl) (by intro _ _ _ h; exact h) (Or.inr ⟨by rfl, rfl⟩) hHeld ?_
      try simp only [Act.put, List.setIfInBounds_toArray, List.set_cons_zero, List.set_cons_succ]
      refine wpAnyH_take (i := 9) (v := undef) (by simp only [List.getElem?_toArray, List.getElem?_cons_zero, List.getElem?_cons_succ]; rfl) (by kernel_rfl) (by kernel_rfl) (by kernel_rfl) (by intro _ _ _ h; exact h) (Or.inr ⟨by rfl, rfl⟩) hHeld ?_
      try simp only [Act.put, List.setIfInBounds_toArray, List.set_cons_zero, List.set_cons_succ]
      refine wpAnyH_take (i := 10) (v := undef) (by simp only [List.getElem?_toArray, List.getElem?_cons_zero, List.getElem?_cons_succ]; rfl) (by kernel_rfl) (by kernel_rfl) (by kernel_rfl) (by intro _ _ _ h; exact h) (Or.inr ⟨by rfl, rfl⟩) hHeld ?_
      try simp only [Act.put, List.setIfInBounds_toArray, List.set_cons_zero, List.set_cons_succ]
      refine wpAnyH_take (i := 11) (v := undef) (by simp only [List.getElem?_toArray, List.getElem?_cons_zero, List.getElem?_cons_succ]; rfl) (by kernel_rfl) (by kernel_rfl) (by kernel_rfl) (by intro _ _ _ h; exact h) (Or.inr ⟨by rfl, rfl⟩) hHeld ?_
      try simp only [Act.put, List.setIfInBounds_toArray, List.set_cons_zero, List.set_cons_succ]
      refine wpAnyH_take (i := 12) (v := ?_) (by simp only [List.getElem?_toArray, List.getElem?_cons_zero, List.getElem?_cons_succ]; rfl) (by kernel_rfl) (by kernel_rfl) (by kernel_rfl) (by intro _ _ _ h; exact h) (Or.inl ⟨by rfl, ?_⟩) hHeld ?_
      rotate_left
      · (intro w hSw; (try dsimp only at hSw); go_simp; try with_reducible rfl)
      try simp only [Act.put, List.setIfInBounds_toArray, List.set_cons_zero, List.set_cons_succ]
      refine wpAnyH_done (by kernel_rfl) ?_ _
      clear hHeld
      obtain ⟨w9, hw9⟩ : ∃ w9, w9 = wr.drew.drew := ⟨_, rfl⟩
      have H49 : Hid (w9.heap[b4]? = some (.cells (u8l k).toArray 35)) := Lib.hid (by rw [hw9]; exact H4.out)
      have B9 : Hid (Below base w w9) := Lib.hid (by rw [hw9]; exact BW.out.drew.drew)
      rw [← hw9]
      clear hw9 H4 BW
      have HL0 : Hid ((w9.alloc (.cells #[] 45)).ownsRow w9.heap.size 45 33 (.slice (some ⟨w9.heap.size, 0, none⟩) 0 0) 0 []) := Lib.hid (World.ownsRow_lit w9 #[] 0 (Nat.le_refl _) (by omega) rfl)
      have H4L : Hid (b4 < w9.heap.size) := Lib.hid (heap_lt H49.out)
      go_upto_region 8 with (at_builtin; refine wpList_append_any rfl _ _ 25 rfl w9.heap.size 45 i0 (.agg zC.toArray) 33 40 Try.underlying25 HI.out.1 HI.out.2.1 HI.out.2.2.1 HI.out.2.2.2 rfl (by decide) _ 0 [] rfl HL0.out none 0 0 [] rfl (fun _ => ⟨rfl, rfl⟩) rfl (fun _ h => by cases h) (fun u hu => by simp at hu) (by unfold maxLen; omega) (by omega) (by simp) ?_; intro v5 w5 hown5 hg5)
      simp only [Nat.zero_add, List.nil_append] at hown5
      have B5 : Hid (Below w9.heap.size w9 w5) := Lib.hid (((Below.refl w9.heap.size w9).alloc (Nat.le_refl _) (.cells #[] 45)).grown hg5 (by simp) (fun q e => (row_lt HL0.out e).1))
      have OWN5 := Lib.hid hown5
      obtain ⟨A5, c5, rfl⟩ := row_shapeS hown5
      have RN4 : Hid (w5.rangeAt b4 0 (u8l k)) := Lib.hid (range_below (range_of H49.out) B5.out H4L.out)
      have HS9 : Hid (w9.heap.size ≤ w5.heap.size) := Lib.hid B5.out.size
      clear hown5 hg5 HL0
      let cn : ElC := ⟨⟨k, x⟩, ⟨HK.out, HX.out⟩⟩
      have HCB : Hid (∀ u, BuildRun Try.prog 45 #[(0, .agg (u8l k).toArray), (1, .int .i64 x)] u (.agg (cellsC cn).toArray)) := Lib.hid fun u => buildCt k HK.out x u
      have HCL : Hid ((cellsC cn).length = 33) := Lib.hid (lenC cn)
      have HC1 := Lib.hid (oneC cn)
      have HINS : Hid (lst (insL L 0 cn) (0 + 1) = addC (lst L 0) k x) := Lib.hid (addC_ins (Nat.le_refl _) (fun q h => absurd h (by omega)) (fun h => absurd h (by omega)) cn rfl)
      have HFI : Hid (cellsC cn = flatS (fun i => cellsC (insL L 0 cn i)) (0 + 1)) := Lib.hid (by have := flat_ins L cn (Nat.le_refl 0); simpa [flatS] using this)
      obtain ⟨M, hM⟩ : ∃ M, M = insL L 0 cn := ⟨_, rfl⟩
      rw [← hM] at HINS HFI
      obtain ⟨cs', hcs'⟩ : ∃ cs', cs' = cellsC cn := ⟨_, rfl⟩
      rw [← hcs'] at HCB HCL HC1 HFI
      clear hcs' hM cn
      go_upto_region 9 with (first | (refine wpList_load_midG rfl 35 (.tmp 4) rfl b4 0 rfl (u8l k) _ RN4.out Try.underlying35 rfl HKL.out ?_) | (refine wpList_buildG rfl 45 [(0, .tmp 55), (1, .tmp 56)] rfl _ rfl _ (HCB.out _) ?_) | (refine wpList_slice1 rfl 25 45 (.tmp 57) rfl cs' rfl i0 (.agg zC.toArray) Try.underlying25 HI.out.1 HI.out.2.1 (by rw [HCL.out]; exact HI.out.2.2.1) (by rw [HCL.out]; omega) (by rw [HCL.out]; omega) ?_) | (at_builtin; refine wpList_append_own _ rfl _ _ 25 rfl w9.heap.size 45 i0 (.agg zC.toArray) 33 40 Try.underlying25 HI.out.1 HI.out.2.1 HI.out.2.2.1 HI.out.2.2.2 rfl (by decide) _ 0 [] rfl (OWN5.out.alloc _) ⟨w5.heap.size, 0, none⟩ 1 1 cs' rfl (by rw [HCL.out]) (cells_at_new w5 cs' 45) HC1.out (by unfold maxLen; omega) (by omega) (by have := HS9.out; simp; omega) ?_; intro v6 w6 hown6 hg6 hv6))
      have B6 : Hid (Below w9.heap.size w9 w6) := Lib.hid ((B5.out.alloc HS9.out (.cells cs'.toArray 45)).grown hg6 (by have := HS9.out; simp; omega) (fun q e => (row_lt OWN5.out e).1))
      have OWN6 := Lib.hid hown6
      obtain ⟨A6, c6, rfl⟩ := row_shapeS hown6
      have HS96 : Hid (w9.heap.size ≤ w6.heap.size) := Lib.hid B6.out.size
      clear hown6 hg6 hv6 OWN5 RN4 B5 HS9
      have HBW : Hid (base ≤ w9.heap.size) := Lib.hid (Nat.le_trans HBB.out (Nat.le_of_lt H4L.out))
      go_wp2_with (at_builtin; refine wpList_append_any rfl _ _ 25 rfl w9.heap.size 45 i0 (.agg zC.toArray) 33 40 Try.underlying25 HI.out.1 HI.out.2.1 HI.out.2.2.1 HI.out.2.2.2 rfl (by decide) _ (0 + 1) _ rfl OWN6.out none 0 0 [] rfl (fun _ => ⟨rfl, rfl⟩) rfl (fun _ h => by cases h) (fun u hu => by simp at hu) (by unfold maxLen; omega) (by omega) HS96.out ?_; intro v7 w7 hown7 hg7)
      simp only [Nat.add_zero, List.append_nil, List.nil_append] at hown7
      rw [HFI.out] at hown7
      have B7 : Hid (Below w9.heap.size w9 w7) := Lib.hid (B6.out.grown hg7 HS96.out (fun q e => (row_lt OWN6.out e).1))
      have OWN7 := Lib.hid hown7
      clear hown7 hg7 OWN6 B6
      go_wp2_with fail
      go_ret
      exact ⟨M, 0 + 1, _, rfl, HINS.out, Nat.le_refl _, row_more OWN7.out HBW.out, B9.out.trans (B7.out.mono HBW.out)⟩
  | some ad =>
    obtain ⟨g, hg⟩ : ∃ g, ad = ⟨g, 0, none⟩ := by
      rcases ho.2 with ⟨h1, _⟩ | ⟨g, _, _, h1, _⟩
      · cases h1
      · injection h1 with h1; injection h1 with h1; exact ⟨g, h1⟩
    subst hg
    clear ho
    go_enter Try.func24, Try.ntmps24
    go_wp2_with fail
    obtain ⟨b4, hb4⟩ : ∃ b4, b4 = w.heap.size := ⟨_, rfl⟩
    obtain ⟨w1, hw1⟩ : ∃ w1, w1 = w.alloc (.cells kc 35) := ⟨_, rfl⟩
    rw [← hw1, ← hb4]
    have H1 : Hid (w1.heap[b4]? = some (.cells (u8l k).toArray 35)) := Lib.hid (by rw [hw1, hb4, HKC.out]; exact heap_new w _)
    have O1 := Lib.hid (HO.out.alloc (.cells kc 35))
    rw [← hw1] at O1
    have B1 : Hid (Below base w w1) := Lib.hid (by rw [hw1]; exact (Below.refl _ _).alloc HBS.out _)
    have HGB : Hid (g ≠ b4) := Lib.hid (by have := (row_lt HO.out (k := g) rfl).2; omega)
    have HBB : Hid (base ≤ b4) := Lib.hid (by rw [hb4]; exact HBS.out)
    clear hw1 hb4
    go_loopw [7] (fun i wr => ∃ j : Nat, j ≤ n ∧ i = .int .i64 j ∧ (∀ q, q < j → kLt (L q).1.k k = true) ∧ wr.ownsRow base 45 33 (.slice (some ⟨g, 0, none⟩) n c) n (flatS (fun i => cellsC (L i)) n) ∧ wr.heap[b4]? = some (.cells (u8l k).toArray 35) ∧ Below base w wr) (fun i _ => n - (intOf i).toNat)
    case atStart => exact ⟨0, Nat.zero_le _, rfl, fun q h => absurd h (by omega), O1.out, H1.out, B1.out⟩
    case round =>
      clear O1 H1 B1
      obtain ⟨j, hj, rfl, hlt, ho, h4, hb⟩ := hrel
      have HLT := Lib.hid hlt
      have OW := Lib.hid ho
      have H4 := Lib.hid h4
      have BW := Lib.hid hb
      clear hlt ho h4 hb
      by_cases hjn : j < n
      · have RK : Hid (wr.rangeAt g (j * 33) (u8l (L j).1.k)) := Lib.hid (ct_k' _ (own_at OW.out hjn))
        have R4 := Lib.hid (range_of H4.out)
        have HKJ := Lib.hid (L j).2.key
        have HKLJ : Hid ((Try.prog.info? 35).map (·.size) = some (u8l (L j).1.k).length) := Lib.hid (by rw [u8l_len, HKJ.out.len]; exact infoKey)
        have HEQ := Lib.hid fun W => eqK (L j).2.key HK.out W
        obtain ⟨kj, hkj⟩ : ∃ kj, kj = (L j).1.k := ⟨_, rfl⟩
        have HKJE := Lib.hid hkj
        rw [← hkj] at RK HKJ HKLJ HEQ
        clear hkj
        obtain ⟨bb, hbb⟩ : ∃ bb, bb = kLt kj k := ⟨_, rfl⟩
        have HBB2 := Lib.hid hbb
        obtain ⟨r, hr⟩ : ∃ r, r = (L j).1.r := ⟨_, rfl⟩
        have HRE := Lib.hid hr
        have HRW : Hid ((Lit.int .i64 r).wf = true) := Lib.hid (by rw [hr]; exact (L j).2.r)
        have RR : Hid (wr.cell? ⟨g, j * 33 + 32, none⟩ = some (.int .i64 r)) := Lib.hid (by rw [hr]; exact ct_r' _ (own_at OW.out hjn))
        have HGL : Hid (g < wr.heap.size) := Lib.hid (row_lt OW.out (k := g) rfl).2
        have H4L : Hid (b4 < wr.heap.size) := Lib.hid (heap_lt H4.out)
        clear hbb hr
        have HBEF : Hid (∀ W, Calls Try.prog 32 #[.agg (u8l kj).toArray, .agg (u8l k).toArray] W fun e W' => e = .returned (.bool bb) ∧ Below W.heap.size W W') := Lib.hid fun W => by rw [HBB2.out]; exact before32 kj k HKJ.out HK.out W
        have i1 : (0 : Int) ≤ j := by omega
        have i2 : (j : Int) < n := by omega
        go_wp2_with fail
        refine wp_region_held_drew (S := fun w' => (w'.rangeAt g (j * 33) (u8l kj) ∧ w'.rangeAt b4 0 (u8l k)) ∧ Below wr.heap.size wr w') (by kernel_rfl) ⟨⟨RK.out, R4.out⟩, (Below.refl _ _).drew⟩ (fun hHeld => ?_)
        refine wpAnyH_take (i := 0) (v := ?_) (by simp only [List.getElem?_toArray, List.getElem?_cons_zero]; rfl) (by kernel_rfl) (by kernel_rfl) (by kernel_rfl) (by intro _ _ _ h; exact h) (Or.inl ⟨by rfl, ?_⟩) hHeld ?_
        rotate_left
        · (intro w hSw; (try dsimp only at hSw); go_simp; try with_reducible rfl)
        try simp only [Act.put, List.setIfInBounds_toArray, List.set_cons_zero, List.set_cons_succ]
        refine wpAnyH_take (i := 1) (v := ?_) (by simp only [List.getElem?_toArray, List.getElem?_cons_zero, List.getElem?_cons_succ]; rfl) (by kernel_rfl) (by kernel_rfl) (by kernel_rfl) (by intro _ _ _ h; exact h) (Or.inl ⟨by rfl, ?_⟩) hHeld ?_
        rotate_left
        · (intro w hSw; (try dsimp only at hSw); go_simp; try with_reducible rfl)
        try simp only [Act.put, List.setIfInBounds_toArray, List.set_cons_zero, List.set_cons_succ]
        refine wpAnyH_take (i := 2) (v := ?_) (by simp only [List.getElem?_toArray, List.getElem?_cons_zero, List.getElem?_cons_succ]; rfl) (by kernel_rfl) (by kernel_rfl) (by kernel_rfl) (by intro _ _ _ h; exact h) (Or.inl ⟨by rfl, ?_⟩) hHeld ?_
        rotate_left
        · (intro w hSw; (try dsimp only at hSw); go_simp; try with_reducible rfl)
        try simp only [Act.put, List.setIfInBounds_toArray, List.set_cons_zero, List.set_cons_succ]
        refine wpAnyH_take (i := 3) (v := ?_) (by simp only [List.getElem?_toArray, List.getElem?_cons_zero, List.getElem?_cons_succ]; rfl) (by kernel_rfl) (by kernel_rfl) (by kernel_rfl) (by intro _ _ _ h; exact h) (Or.inl ⟨by rfl, ?_⟩) hHeld ?_
        rotate_left
        · (intro w hSw; (try dsimp only at hSw); go_simp; try with_reducible rfl)
        try simp only [Act.put, List.setIfInBounds_toArray, List.set_cons_zero, List.set_cons_succ]
        refine wpAnyH_take (i := 4) (v := ?_) (by simp only [List.getElem?_toArray, List.getElem?_cons_zero, List.getElem?_cons_succ]; rfl) (by kernel_rfl) (by kernel_rfl) (by kernel_rfl) (by intro _ _ _ h; exact h) (Or.inl ⟨by rfl, ?_⟩) hHeld ?_
        rotate_left
        · (intro w hSw; (try dsimp only at hSw); go_simp; try with_reducible rfl)
        try simp only [Act.put, List.setIfInBounds_toArray, List.set_cons_zero, List.set_cons_succ]
        refine wpAnyH_take (i := 5) (v := ?_) (by simp only [List.getElem?_toArray, List.getElem?_cons_zero, List.getElem?_cons_succ]; rfl) (by kernel_rfl) (by kernel_rfl) (by kernel_rfl) (by intro _ _ _ h; exact h) (Or.inl ⟨by rfl, ?_⟩) hHeld ?_
        rotate_left
        · (intro w hSw; (try dsimp only at hSw); go_simp; try with_reducible rfl)
        try simp only [Act.put, List.setIfInBounds_toArray, List.set_cons_zero, List.set_cons_succ]
        refine wpAnyH_take (i := 6) (v := ?_) (by simp only [List.getElem?_toArray, List.getElem?_cons_zero, List.getElem?_cons_succ]; rfl) (by kernel_rfl) (by kernel_rfl) (by kernel_rfl) (by intro _ _ _ h; exact h) (Or.inl ⟨by rfl, ?_⟩) hHeld ?_
        rotate_left
        · (intro w hSw; (try dsimp only at hSw); go_simp; try with_reducible rfl)
        try simp only [Act.put, List.setIfInBounds_toArray, List.set_cons_zero, List.set_cons_succ]
        refine wpAnyH_take (i := 7) (v := ?_) (by simp only [List.getElem?_toArray, List.getElem?_cons_zero, List.getElem?_cons_succ]; rfl) (by kernel_rfl) (by kernel_rfl) (by kernel_rfl) (by intro _ _ _ h; exact h) (Or.inl ⟨by rfl, ?_⟩) hHeld ?_
        rotate_left
        · (intro w hSw; (try dsimp only at hSw); go_simp; try with_reducible rfl)
        try simp only [Act.put, List.setIfInBounds_toArray, List.set_cons_zero, List.set_cons_succ]
        refine wpAnyH_take (i := 8) (v := ?_) (by simp only [List.getElem?_toArray, List.getElem?_cons_zero, List.getElem?_cons_succ]; rfl) (by kernel_rfl) (by kernel_rfl) (by kernel_rfl) (by intro _ _ _ h; exact h) (Or.inl ⟨by rfl, ?_⟩) hHeld ?_
        rotate_left
        · (intro w hSw; (try dsimp only at hSw); go_simp; try with_reducible rfl)
        try simp only [Act.put, List.setIfInBounds_toArray, List.set_cons_zero, List.set_cons_succ]
        refine wpAnyH_take (i := 9) (v := _) (by simp only [List.getElem?_toArray, List.getElem?_cons_zero, List.getElem?_cons_succ]; rfl) (by kernel_rfl) (by kernel_rfl) (by kernel_rfl) (by intro _ _ _ h; exact h) (yieldsIf_load_mid (by rfl) 35 (.tmp 17) rfl g (j * 33) rfl (u8l kj) _ (fun _ h => h.1.1) Try.underlying35 rfl HKLJ.out) hHeld ?_
        try simp only [Act.put, List.setIfInBounds_toArray, List.set_cons_zero, List.set_cons_succ]
        refine wpAnyH_take (i := 10) (v := _) (by simp only [List.getElem?_toArray, List.getElem?_cons_zero, List.getElem?_cons_succ]; rfl) (by kernel_rfl) (by kernel_rfl) (by kernel_rfl) (by intro _ _ _ h; exact h) (yieldsIf_load_mid (by rfl) 35 (.tmp 4) rfl b4 0 rfl (u8l k) _ (fun _ h => h.1.2) Try.underlying35 rfl HKL.out) hHeld ?_
        try simp only [Act.put, List.setIfInBounds_toArray, List.set_cons_zero, List.set_cons_succ]
        refine wpAnyH_ready (rs := [11]) (by kernel_rfl) (by simp) ?_
        refine AllReadyH.cons (by simp only [List.getElem?_toArray, List.getElem?_cons_zero, List.getElem?_cons_succ]; rfl) (fun K hK => ?_) AllReadyH.nil
        rw [if_pos (by rfl)]
        refine wp_callF2 32 (.tmp 18) (.tmp 19) _ rfl enter32 (.agg (u8l kj).toArray) (.agg (u8l k).toArray) rfl rfl ?_
        refine (HBEF.out _).mono ?_
        rintro e w3 ⟨rfl, hb3⟩
        refine ⟨_, rfl, ?_⟩
        have HB3 : Hid (Below wr.heap.size wr w3) := Lib.hid ((Below.refl wr.heap.size wr).drew.trans hb3)
        have RK3 := Lib.hid (range_below RK.out HB3.out HGL.out)
        have R43 := Lib.hid (range_below R4.out HB3.out H4L.out)
        have RR3 : Hid (w3.cell? ⟨g, j * 33 + 32, none⟩ = some (.int .i64 r)) := Lib.hid ((World.cell?_of_block (HB3.out.block g HGL.out)).trans RR.out)
        have OW3 := Lib.hid ((Keeps.fresh (S := fun _ => False) HB3.out).row OW.out (fun _ _ h => h))
        have H43 : Hid (w3.heap[b4]? = some (.cells (u8l k).toArray 35)) := Lib.hid ((HB3.out.block b4 H4L.out).trans H4.out)
        have BW3 : Hid (Below base w w3) := Lib.hid (BW.out.trans (HB3.out.mono (Nat.le_of_lt (Nat.lt_of_le_of_lt HBB.out H4L.out))))
        refine hK.out _ _ ⟨⟨RK3.out, R43.out⟩, HB3.out⟩ (fun hHeld => ?_)
        clear hK K hb3 hHeld
        have hHeld : (w3.rangeAt g (j * 33) (u8l kj) ∧ w3.rangeAt b4 0 (u8l k)) ∧ Below wr.heap.size wr w3 := ⟨⟨RK3.out, R43.out⟩, HB3.out⟩
        try simp only [Act.put, List.setIfInBounds_toArray, List.set_cons_zero, List.set_cons_succ]
        refine wpAnyH_take (i := 12) (v := ?_) (by simp only [List.getElem?_toArray, List.getElem?_cons_zero, List.getElem?_cons_succ]; rfl) (by kernel_rfl) (by kernel_rfl) (by kernel_rfl) (by intro _ _ _ h; exact h) (Or.inl ⟨by rfl, ?_⟩) hHeld ?_
        rotate_left
        · (intro w hSw; (try dsimp only at hSw); go_simp; try with_reducible rfl)
        try simp only [Act.put, List.setIfInBounds_toArray, List.set_cons_zero, List.set_cons_succ]
        refine wpAnyH_done (by kernel_rfl) ?_ _
        clear hHeld
        clear RK R4 RR OW H4 BW
        cases bb with
        | true =>
          have HLT2 : Hid (∀ q, q < j + 1 → kLt (L q).1.k k = true) := Lib.hid fun q hq => by
            rcases Nat.lt_or_ge q j with h | h
            · exact HLT.out q h
            · obtain rfl : q = j := by omega
              rw [← HKJE.out]; exact HBB2.out.symm
          go_wp2_with fail
          go_roundw
          case rel => exact ⟨j + 1, by omega, by go_num, HLT2.out, OW3.out, H43.out, BW3.out⟩
          case measure => simp [intOf]; omega
        | false =>
          have HNL : Hid (kLt (L j).1.k k = false) := Lib.hid (by rw [← HKJE.out]; exact HBB2.out.symm)
          obtain ⟨q, hq⟩ : ∃ q, q = decide (kj = k) := ⟨_, rfl⟩
          rw [← hq] at HEQ
          have HQ := Lib.hid hq
          clear hq
          go_wp2_with fail
          refine wp_region_held_drew (S := fun w' => w'.rangeAt g (j * 33) (u8l kj) ∧ w'.rangeAt b4 0 (u8l k)) (by kernel_rfl) ⟨RK3.out, R43.out⟩ (fun hHeld => ?_)
          refine wpAnyH_take (i := 0) (v := ?_) (by simp only [List.getElem?_toArray, List.getElem?_cons_zero]; rfl) (by kernel_rfl) (by kernel_rfl) (by kernel_rfl) (by intro _ _ _ h; exact h) (Or.inl ⟨by rfl, ?_⟩) hHeld ?_
          rotate_left
          · (intro w hSw; (try dsimp only at hSw); go_simp; try with_reducible rfl)
          try simp only [Act.put, List.setIfInBounds_toArray, List.set_cons_zero, List.set_cons_succ]
          refine wpAnyH_take (i := 1) (v := ?_) (by simp only [List.getElem?_toArray, List.getElem?_cons_zero, List.getElem?_cons_succ]; rfl) (by kernel_rfl) (by kernel_rfl) (by kernel_rfl) (by intro _ _ _ h; exact h) (Or.inl ⟨by rfl, ?_⟩) hHeld ?_
          rotate_left
          · (intro w hSw; (try dsimp only at hSw); go_simp; try with_reducible rfl)
          try simp only [Act.put, List.setIfInBounds_toArray, List.set_cons_zero, List.set_cons_succ]
          refine wpAnyH_take (i := 2) (v := ?_) (by simp only [List.getElem?_toArray, List.getElem?_cons_zero, List.getElem?_cons_succ]; rfl) (by kernel_rfl) (by kernel_rfl) (by kernel_rfl) (by intro _ _ _ h; exact h) (Or.inl ⟨by rfl, ?_⟩) hHeld ?_
          rotate_left
          · (intro w hSw; (try dsimp only at hSw); go_simp; try with_reducible rfl)
          try simp only [Act.put, List.setIfInBounds_toArray, List.set_cons_zero, List.set_cons_succ]
          refine wpAnyH_take (i := 3) (v := ?_) (by simp only [List.getElem?_toArray, List.getElem?_cons_zero, List.getElem?_cons_succ]; rfl) (by kernel_rfl) (by kernel_rfl) (by kernel_rfl) (by intro _ _ _ h; exact h) (Or.inl ⟨by rfl, ?_⟩) hHeld ?_
          rotate_left
          · (intro w hSw; (try dsimp only at hSw); go_simp; try with_reducible rfl)
          try simp only [Act.put, List.setIfInBounds_toArray, List.set_cons_zero, List.set_cons_succ]
          refine wpAnyH_take (i := 4) (v := ?_) (by simp only [List.getElem?_toArray, List.getElem?_cons_zero, List.getElem?_cons_succ]; rfl) (by kernel_rfl) (by kernel_rfl) (by kernel_rfl) (by intro _ _ _ h; exact h) (Or.inl ⟨by rfl, ?_⟩) hHeld ?_
          rotate_left
          · (intro w hSw; (try dsimp only at hSw); go_simp; try with_reducible rfl)
          try simp only [Act.put, List.setIfInBounds_toArray, List.set_cons_zero, List.set_cons_succ]
          refine wpAnyH_take (i := 5) (v := ?_) (by simp only [List.getElem?_toArray, List.getElem?_cons_zero, List.getElem?_cons_succ]; rfl) (by kernel_rfl) (by kernel_rfl) (by kernel_rfl) (by intro _ _ _ h; exact h) (Or.inl ⟨by rfl, ?_⟩) hHeld ?_
          rotate_left
          · (intro w hSw; (try dsimp only at hSw); go_simp; try with_reducible rfl)
          try simp only [Act.put, List.setIfInBounds_toArray, List.set_cons_zero, List.set_cons_succ]
          refine wpAnyH_take (i := 6) (v := ?_) (by simp only [List.getElem?_toArray, List.getElem?_cons_zero, List.getElem?_cons_succ]; rfl) (by kernel_rfl) (by kernel_rfl) (by kernel_rfl) (by intro _ _ _ h; exact h) (Or.inl ⟨by rfl, ?_⟩) hHeld ?_
          rotate_left
          · (intro w hSw; (try dsimp only at hSw); go_simp; try with_reducible rfl)
          try simp only [Act.put, List.setIfInBounds_toArray, List.set_cons_zero, List.set_cons_succ]
          refine wpAnyH_take (i := 7) (v := ?_) (by simp only [List.getElem?_toArray, List.getElem?_cons_zero, List.getElem?_cons_succ]; rfl) (by kernel_rfl) (by kernel_rfl) (by kernel_rfl) (by intro _ _ _ h; exact h) (Or.inl ⟨by rfl, ?_⟩) hHeld ?_
          rotate_left
          · (intro w hSw; (try dsimp only at hSw); go_simp; try with_reducible rfl)
          try simp only [Act.put, List.setIfInBounds_toArray, List.set_cons_zero, List.set_cons_succ]
          refine wpAnyH_take (i := 8) (v := ?_) (by simp only [List.getElem?_toArray, List.getElem?_cons_zero, List.getElem?_cons_succ]; rfl) (by kernel_rfl) (by kernel_rfl) (by kernel_rfl) (by intro _ _ _ h; exact h) (Or.inl ⟨by rfl, ?_⟩) hHeld ?_
          rotate_left
          · (intro w hSw; (try dsimp only at hSw); go_simp; try with_reducible rfl)
          try simp only [Act.put, List.setIfInBounds_toArray, List.set_cons_zero, List.set_cons_succ]
          refine wpAnyH_take (i := 9) (v := _) (by simp only [List.getElem?_toArray, List.getElem?_cons_zero, List.getElem?_cons_succ]; rfl) (by kernel_rfl) (by kernel_rfl) (by kernel_rfl) (by intro _ _ _ h; exact h) (yieldsIf_load_mid (by rfl) 35 (.tmp 32) rfl g (j * 33) rfl (u8l kj) _ (fun _ h => h.1) Try.underlying35 rfl HKLJ.out) hHeld ?_
          try simp only [Act.put, List.setIfInBounds_toArray, List.set_cons_zero, List.set_cons_succ]
          refine wpAnyH_take (i := 10) (v := _) (by simp only [List.getElem?_toArray, List.getElem?_cons_zero, List.getElem?_cons_succ]; rfl) (by kernel_rfl) (by kernel_rfl) (by kernel_rfl) (by intro _ _ _ h; exact h) (yieldsIf_load_mid (by rfl) 35 (.tmp 4) rfl b4 0 rfl (u8l k) _ (fun _ h => h.2) Try.underlying35 rfl HKL.out) hHeld ?_
          try simp only [Act.put, List.setIfInBounds_toArray, List.set_cons_zero, List.set_cons_succ]
          refine wpAnyH_take (i := 11) (v := _) (by simp only [List.getElem?_toArray, List.getElem?_cons_zero, List.getElem?_cons_succ]; rfl) (by kernel_rfl) (by kernel_rfl) (by kernel_rfl) (by intro _ _ _ h; exact h) (yields_eql (by rfl) 35 (.tmp 33) (.tmp 34) rfl (u8l kj).toArray (u8l k).toArray rfl rfl q eqgK (fun W => HEQ.out W)) hHeld ?_
          try simp only [Act.put, List.setIfInBounds_toArray, List.set_cons_zero, List.set_cons_succ]
          refine wpAnyH_take (i := 12) (v := ?_) (by simp only [List.getElem?_toArray, List.getElem?_cons_zero, List.getElem?_cons_succ]; rfl) (by kernel_rfl) (by kernel_rfl) (by kernel_rfl) (by intro _ _ _ h; exact h) (Or.inl ⟨by rfl, ?_⟩) hHeld ?_
          rotate_left
          · (intro w hSw; (try dsimp only at hSw); go_simp; try with_reducible rfl)
          try simp only [Act.put, List.setIfInBounds_toArray, List.set_cons_zero, List.set_cons_succ]
          refine wpAnyH_done (by kernel_rfl) ?_ _
          clear hHeld
          cases q with
          | true =>
            have RR4 : w3.drew.cell? ⟨g, j * 33 + 32, none⟩ = some (.int .i64 r) := RR3.out
            have hw : IntKind.i64.wrap (r + x) = wrap64 (r + x) := IntWalk.i64_left _
            have FZ : w3.frozen? ⟨g, j * 33 + 32, none⟩ = false := OW3.out.frozenAt _
            have FZ2 : w3.drew.frozen? ⟨g, j * 33 + 32, none⟩ = false := OW3.out.frozenAt _
            go_wp2_with fail
            go_ret
            exact setOut L n base g c j k x w w3 _ hjn HLT.out HNL.out (HKJE.out ▸ of_decide_eq_true HQ.out.symm) (by rw [HRE.out]) HK.out OW3.out BW3.out (row_lt HO.out (k := g) rfl).1
          | false =>
            have NH : Hid (j < n → kLt (L j).1.k k = false ∧ (L j).1.k ≠ k) := Lib.hid fun _ => ⟨HNL.out, HKJE.out ▸ of_decide_eq_false HQ.out.symm⟩
            obtain ⟨w9, hw9⟩ : ∃ w9, w9 = w3.drew := ⟨_, rfl⟩
            have O9 : Hid (w9.ownsRow base 45 33 (.slice (some ⟨g, 0, none⟩) n c) n (flatS (fun i => cellsC (L i)) n)) := Lib.hid (by rw [hw9]; exact OW3.out)
            have H49 : Hid (w9.heap[b4]? = some (.cells (u8l k).toArray 35)) := Lib.hid (by rw [hw9]; exact H43.out)
            have B9 : Hid (Below base w w9) := Lib.hid (by rw [hw9]; exact BW3.out.drew)
            rw [← hw9]
            clear hw9 OW3 H43 BW3 RK3 R43 RR3 HB3
            have i1 : (0 : Int) ≤ j := by omega
            have i3 : (j : Int) ≤ n := by omega
            have i4 : (n : Int) ≤ c := by have := HNC.out; omega
            have i5 : (j : Int) ≤ c := by omega
            have HL0 : Hid ((w9.alloc (.cells #[] 45)).ownsRow w9.heap.size 45 33 (.slice (some ⟨w9.heap.size, 0, none⟩) 0 0) 0 []) := Lib.hid (World.ownsRow_lit w9 #[] 0 (Nat.le_refl _) (by omega) rfl)
            have HSRC : Hid (SArr w9 w9.heap.size (some ⟨g, 0, none⟩) n 33 fun i => cellsC (L i)) := Lib.hid (srow_own (wideC L) O9.out)
            have HSR9 := HSRC
            have HGL : Hid (g < w9.heap.size) := Lib.hid (row_lt O9.out (k := g) rfl).2
            have H4L : Hid (b4 < w9.heap.size) := Lib.hid (heap_lt H49.out)
            have HF1 : Hid ((flatS (fun i => cellsC (L i)) j).length = j * 33) := Lib.hid (flatS_len (wideC L) j)
            have HON1 := Lib.hid (onesC L j)
            have HW0 : Hid (SArr (w9.alloc (.cells #[] 45)) w9.heap.size (some ⟨g, 0, none⟩) j 33 fun i => cellsC (L i)) := Lib.hid ((HSRC.out.less (by omega)).below (((Below.refl w9.heap.size w9).alloc (Nat.le_refl _) _)) (Nat.le_refl _))
            go_upto_region 8 with (at_builtin; refine wpList_append_any rfl _ _ 25 rfl w9.heap.size 45 i0 (.agg zC.toArray) 33 40 Try.underlying25 HI.out.1 HI.out.2.1 HI.out.2.2.1 HI.out.2.2.2 rfl (by decide) _ 0 [] rfl HL0.out (some ⟨g, 0, none⟩) j c (flatS (fun i => cellsC (L i)) j) rfl (fun e => by cases e) HF1.out (HW0.out.cellsAt (wideC L)) HON1.out (by unfold maxLen; omega) (by omega) (by simp) ?_; intro v5 w5 hown5 hg5)
            simp only [Nat.zero_add, List.nil_append] at hown5
            have B5 : Hid (Below w9.heap.size w9 w5) := Lib.hid (((Below.refl w9.heap.size w9).alloc (Nat.le_refl _) (.cells #[] 45)).grown hg5 (by simp) (fun q e => (row_lt HL0.out e).1))
            have OWN5 := Lib.hid hown5
            obtain ⟨A5, c5, rfl⟩ := row_shapeS hown5
            have RN4 : Hid (w5.rangeAt b4 0 (u8l k)) := Lib.hid (range_below (range_of H49.out) B5.out H4L.out)
            have HS5 : Hid (SArr w5 w9.heap.size (some ⟨g, 0, none⟩) n 33 fun i => cellsC (L i)) := Lib.hid (HSRC.out.below B5.out (Nat.le_refl _))
            have HS9 : Hid (w9.heap.size ≤ w5.heap.size) := Lib.hid B5.out.size
            clear hown5 hg5 HSRC HL0 HF1 HON1 HW0
            let cn : ElC := ⟨⟨k, x⟩, ⟨HK.out, HX.out⟩⟩
            have HCB : Hid (∀ u, BuildRun Try.prog 45 #[(0, .agg (u8l k).toArray), (1, .int .i64 x)] u (.agg (cellsC cn).toArray)) := Lib.hid fun u => buildCt k HK.out x u
            have HCL : Hid ((cellsC cn).length = 33) := Lib.hid (lenC cn)
            have HC1 := Lib.hid (oneC cn)
            have HINS : Hid (lst (insL L j cn) (n + 1) = addC (lst L n) k x) := Lib.hid (addC_ins (by omega) HLT.out NH.out cn rfl)
            have HFI : Hid (flatS (fun i => cellsC (L i)) j ++ cellsC cn ++ flatS (fun i => cellsC (L (j + i))) (n - j) = flatS (fun i => cellsC (insL L j cn i)) (n + 1)) := Lib.hid (flat_ins L cn (by omega))
            obtain ⟨M, hM⟩ : ∃ M, M = insL L j cn := ⟨_, rfl⟩
            rw [← hM] at HINS HFI
            obtain ⟨cs', hcs'⟩ : ∃ cs', cs' = cellsC cn := ⟨_, rfl⟩
            rw [← hcs'] at HCB HCL HC1 HFI
            clear hcs' hM cn
            go_upto_region 9 with (first | (refine wpList_load_midG rfl 35 (.tmp 4) rfl b4 0 rfl (u8l k) _ RN4.out Try.underlying35 rfl HKL.out ?_) | (refine wpList_buildG rfl 45 [(0, .tmp 55), (1, .tmp 56)] rfl _ rfl _ (HCB.out _) ?_) | (refine wpList_slice1 rfl 25 45 (.tmp 57) rfl cs' rfl i0 (.agg zC.toArray) Try.underlying25 HI.out.1 HI.out.2.1 (by rw [HCL.out]; exact HI.out.2.2.1) (by rw [HCL.out]; omega) (by rw [HCL.out]; omega) ?_) | (at_builtin; refine wpList_append_own _ rfl _ _ 25 rfl w9.heap.size 45 i0 (.agg zC.toArray) 33 40 Try.underlying25 HI.out.1 HI.out.2.1 HI.out.2.2.1 HI.out.2.2.2 rfl (by decide) _ j (flatS (fun i => cellsC (L i)) j) rfl (OWN5.out.alloc _) ⟨w5.heap.size, 0, none⟩ 1 1 cs' rfl (by rw [HCL.out]) (cells_at_new w5 cs' 45) HC1.out (by unfold maxLen; omega) (by omega) (by have := HS9.out; simp; omega) ?_; intro v6 w6 hown6 hg6 hv6))
            have B6 : Hid (Below w9.heap.size w9 w6) := Lib.hid ((B5.out.alloc HS9.out (.cells cs'.toArray 45)).grown hg6 (by have := HS9.out; simp; omega) (fun q e => (row_lt OWN5.out e).1))
            have HS6 : Hid (SArr w6 w9.heap.size (some ⟨g, 0, none⟩) n 33 fun i => cellsC (L i)) := Lib.hid (HSR9.out.below B6.out (Nat.le_refl _))
            have OWN6 := Lib.hid hown6
            obtain ⟨A6, c6, rfl⟩ := row_shapeS hown6
            have HS96 : Hid (w9.heap.size ≤ w6.heap.size) := Lib.hid B6.out.size
            clear hown6 hg6 hv6 OWN5 HS5 RN4 B5 HS9
            have HF2 : Hid ((flatS (fun i => cellsC (L (j + i))) (n - j)).length = (n - j) * 33) := Lib.hid (flatS_len (wideC fun i => L (j + i)) _)
            have HON2 := Lib.hid (onesC (fun i => L (j + i)) (n - j))
            have HBW : Hid (base ≤ w9.heap.size) := Lib.hid (Nat.le_trans HBB.out (Nat.le_of_lt H4L.out))
            have HSR6 : Hid (SArr w6 w9.heap.size (some ⟨g, j * 33, none⟩) (n - j) 33 fun i => cellsC (L (j + i))) := Lib.hid (srow_drop HS6.out j)
            go_wp2_with (at_builtin; refine wpList_append_any rfl _ _ 25 rfl w9.heap.size 45 i0 (.agg zC.toArray) 33 40 Try.underlying25 HI.out.1 HI.out.2.1 HI.out.2.2.1 HI.out.2.2.2 rfl (by decide) _ (j + 1) _ rfl OWN6.out (some ⟨g, j * 33, none⟩) (n - j) (c - j) (flatS (fun i => cellsC (L (j + i))) (n - j)) rfl (fun e => by cases e) HF2.out (HSR6.out.cellsAt (wideC fun i => L (j + i))) HON2.out (by unfold maxLen; omega) (by omega) HS96.out ?_; intro v7 w7 hown7 hg7)
            rw [HFI.out, show j + 1 + (n - j) = n + 1 by omega] at hown7
            have B7 : Hid (Below w9.heap.size w9 w7) := Lib.hid (B6.out.grown hg7 HS96.out (fun q e => (row_lt OWN6.out e).1))
            have OWN7 := Lib.hid hown7
            clear hown7 hg7 OWN6 HS6 B6
            go_wp2_with fail
            go_ret
            exact ⟨M, n + 1, _, rfl, HINS.out, Nat.le_refl _, row_more OWN7.out HBW.out, B9.out.trans (B7.out.mono HBW.out)⟩
      · obtain rfl : j = n := by omega
        go_wp2_with fail
        refine wp_region_held_drew (S := fun _ => True) (by kernel_rfl) trivial (fun hHeld => ?_)
        refine wpAnyH_take (i := 0) (v := ?_) (by simp only [List.getElem?_toArray, List.getElem?_cons_zero]; rfl) (by kernel_rfl) (by kernel_rfl) (by kernel_rfl) (by intro _ _ _ h; exact h) (Or.inl ⟨by rfl, ?_⟩) hHeld ?_
        rotate_left
        · (intro w hSw; (try dsimp only at hSw); go_simp; try with_reducible rfl)
        try simp only [Act.put, List.setIfInBounds_toArray, List.set_cons_zero, List.set_cons_succ]
        refine wpAnyH_take (i := 1) (v := ?_) (by simp only [List.getElem?_toArray, List.getElem?_cons_zero, List.getElem?_cons_succ]; rfl) (by kernel_rfl) (by kernel_rfl) (by kernel_rfl) (by intro _ _ _ h; exact h) (Or.inl ⟨by rfl, ?_⟩) hHeld ?_
        rotate_left
        · (intro w hSw; (try dsimp only at hSw); go_simp; try with_reducible rfl)
        try simp only [Act.put, List.setIfInBounds_toArray, List.set_cons_zero, List.set_cons_succ]
        refine wpAnyH_take (i := 2) (v := ?_) (by simp only [List.getElem?_toArray, List.getElem?_cons_zero, List.getElem?_cons_succ]; rfl) (by kernel_rfl) (by kernel_rfl) (by kernel_rfl) (by intro _ _ _ h; exact h) (Or.inl ⟨by rfl, ?_⟩) hHeld ?_
        rotate_left
        · (intro w hSw; (try dsimp only at hSw); go_simp; try with_reducible rfl)
        try simp only [Act.put, List.setIfInBounds_toArray, List.set_cons_zero, List.set_cons_succ]
        refine wpAnyH_take (i := 3) (v := ?_) (by simp only [List.getElem?_toArray, List.getElem?_cons_zero, List.getElem?_cons_succ]; rfl) (by kernel_rfl) (by kernel_rfl) (by kernel_rfl) (by intro _ _ _ h; exact h) (Or.inl ⟨by rfl, ?_⟩) hHeld ?_
        rotate_left
        · (intro w hSw; (try dsimp only at hSw); go_simp; try with_reducible rfl)
        try simp only [Act.put, List.setIfInBounds_toArray, List.set_cons_zero, List.set_cons_succ]
        refine wpAnyH_take (i := 4) (v := ?_) (by simp only [List.getElem?_toArray, List.getElem?_cons_zero, List.getElem?_cons_succ]; rfl) (by kernel_rfl) (by kernel_rfl) (by kernel_rfl) (by intro _ _ _ h; exact h) (Or.inl ⟨by rfl, ?_⟩) hHeld ?_
        rotate_left
        · (intro w hSw; (try dsimp only at hSw); go_simp; try with_reducible rfl)
        try simp only [Act.put, List.setIfInBounds_toArray, List.set_cons_zero, List.set_cons_succ]
        refine wpAnyH_take (i := 5) (v := undef) (by simp only [List.getElem?_toArray, List.getElem?_cons_zero, List.getElem?_cons_succ]; rfl) (by kernel_rfl) (by kernel_rfl) (by kernel_rfl) (by intro _ _ _ h; exact h) (Or.inr ⟨by rfl, rfl⟩) hHeld ?_
        try simp only [Act.put, List.setIfInBounds_toArray, List.set_cons_zero, List.set_cons_succ]
        refine wpAnyH_take (i := 6) (v := undef) (by simp only [List.getElem?_toArray, List.getElem?_cons_zero, List.getElem?_cons_succ]; rfl) (by kernel_rfl) (by kernel_rfl) (by kernel_rfl) (by intro _ _ _ h; exact h) (Or.inr ⟨by rfl, rfl⟩) hHeld ?_
        try simp only [Act.put, List.setIfInBounds_toArray, List.set_cons_zero, List.set_cons_succ]
        refine wpAnyH_take (i := 7) (v := undef) (by simp only [List.getElem?_toArray, List.getElem?_cons_zero, List.getElem?_cons_succ]; rfl) (by kernel_rfl) (by kernel_rfl) (by kernel_rfl) (by intro _ _ _ h; exact h) (Or.inr ⟨by rfl, rfl⟩) hHeld ?_
        try simp only [Act.put, List.setIfInBounds_toArray, List.set_cons_zero, List.set_cons_succ]
        refine wpAnyH_take (i := 8) (v := undef) (by simp only [List.getElem?_toArray, List.getElem?_cons_zero, List.getElem?_cons_succ]; rfl) (by kernel_rfl) (by kernel_rfl) (by kernel_rfl) (by intro _ _ _ h; exact h) (Or.inr ⟨by rfl, rfl⟩) hHeld ?_
        try simp only [Act.put, List.setIfInBounds_toArray, List.set_cons_zero, List.set_cons_succ]
        refine wpAnyH_take (i := 9) (v := undef) (by simp only [List.getElem?_toArray, List.getElem?_cons_zero, List.getElem?_cons_succ]; rfl) (by kernel_rfl) (by kernel_rfl) (by kernel_rfl) (by intro _ _ _ h; exact h) (Or.inr ⟨by rfl, rfl⟩) hHeld ?_
        try simp only [Act.put, List.setIfInBounds_toArray, List.set_cons_zero, List.set_cons_succ]
        refine wpAnyH_take (i := 10) (v := undef) (by simp only [List.getElem?_toArray, List.getElem?_cons_zero, List.getElem?_cons_succ]; rfl) (by kernel_rfl) (by kernel_rfl) (by kernel_rfl) (by intro _ _ _ h; exact h) (Or.inr ⟨by rfl, rfl⟩) hHeld ?_
        try simp only [Act.put, List.setIfInBounds_toArray, List.set_cons_zero, List.set_cons_succ]
        refine wpAnyH_take (i := 11) (v := undef) (by simp only [List.getElem?_toArray, List.getElem?_cons_zero, List.getElem?_cons_succ]; rfl) (by kernel_rfl) (by kernel_rfl) (by kernel_rfl) (by intro _ _ _ h; exact h) (Or.inr ⟨by rfl, rfl⟩) hHeld ?_
        try simp only [Act.put, List.setIfInBounds_toArray, List.set_cons_zero, List.set_cons_succ]
        refine wpAnyH_take (i := 12) (v := ?_) (by simp only [List.getElem?_toArray, List.getElem?_cons_zero, List.getElem?_cons_succ]; rfl) (by kernel_rfl) (by kernel_rfl) (by kernel_rfl) (by intro _ _ _ h; exact h) (Or.inl ⟨by rfl, ?_⟩) hHeld ?_
        rotate_left
        · (intro w hSw; (try dsimp only at hSw); go_simp; try with_reducible rfl)
        try simp only [Act.put, List.setIfInBounds_toArray, List.set_cons_zero, List.set_cons_succ]
        refine wpAnyH_done (by kernel_rfl) ?_ _
        clear hHeld
        go_wp2_with fail
        refine wp_region_held_drew (S := fun _ => True) (by kernel_rfl) trivial (fun hHeld => ?_)
        refine wpAnyH_take (i := 0) (v := ?_) (by simp only [List.getElem?_toArray, List.getElem?_cons_zero]; rfl) (by kernel_rfl) (by kernel_rfl) (by kernel_rfl) (by intro _ _ _ h; exact h) (Or.inl ⟨by rfl, ?_⟩) hHeld ?_
        rotate_left
        · (intro w hSw; (try dsimp only at hSw); go_simp; try with_reducible rfl)
        try simp only [Act.put, List.setIfInBounds_toArray, List.set_cons_zero, List.set_cons_succ]
        refine wpAnyH_take (i := 1) (v := ?_) (by simp only [List.getElem?_toArray, List.getElem?_cons_zero, List.getElem?_cons_succ]; rfl) (by kernel_rfl) (by kernel_rfl) (by kernel_rfl) (by intro _ _ _ h; exact h) (Or.inl ⟨by rfl, ?_⟩) hHeld ?_
        rotate_left
        · (intro w hSw; (try dsimp only at hSw); go_simp; try with_reducible rfl)
        try simp only [Act.put, List.setIfInBounds_toArray, List.set_cons_zero, List.set_cons_succ]
        refine wpAnyH_take (i := 2) (v := ?_) (by simp only [List.getElem?_toArray, List.getElem?_cons_zero, List.getElem?_cons_succ]; rfl) (by kernel_rfl) (by kernel_rfl) (by kernel_rfl) (by intro _ _ _ h; exact h) (Or.inl ⟨by rfl, ?_⟩) hHeld ?_
        rotate_left
        · (intro w hSw; (try dsimp only at hSw); go_simp; try with_reducible rfl)
        try simp only [Act.put, List.setIfInBounds_toArray, List.set_cons_zero, List.set_cons_succ]
        refine wpAnyH_take (i := 3) (v := ?_) (by simp only [List.getElem?_toArray, List.getElem?_cons_zero, List.getElem?_cons_succ]; rfl) (by kernel_rfl) (by kernel_rfl) (by kernel_rfl) (by intro _ _ _ h; exact h) (Or.inl ⟨by rfl, ?_⟩) hHeld ?_
        rotate_left
        · (intro w hSw; (try dsimp only at hSw); go_simp; try with_reducible rfl)
        try simp only [Act.put, List.setIfInBounds_toArray, List.set_cons_zero, List.set_cons_succ]
        refine wpAnyH_take (i := 4) (v := ?_) (by simp only [List.getElem?_toArray, List.getElem?_cons_zero, List.getElem?_cons_succ]; rfl) (by kernel_rfl) (by kernel_rfl) (by kernel_rfl) (by intro _ _ _ h; exact h) (Or.inl ⟨by rfl, ?_⟩) hHeld ?_
        rotate_left
        · (intro w hSw; (try dsimp only at hSw); go_simp; try with_reducible rfl)
        try simp only [Act.put, List.setIfInBounds_toArray, List.set_cons_zero, List.set_cons_succ]
        refine wpAnyH_take (i := 5) (v := undef) (by simp only [List.getElem?_toArray, List.getElem?_cons_zero, List.getElem?_cons_succ]; rfl) (by kernel_rfl) (by kernel_rfl) (by kernel_rfl) (by intro _ _ _ h; exact h) (Or.inr ⟨by rfl, rfl⟩) hHeld ?_
        try simp only [Act.put, List.setIfInBounds_toArray, List.set_cons_zero, List.set_cons_succ]
        refine wpAnyH_take (i := 6) (v := undef) (by simp only [List.getElem?_toArray, List.getElem?_cons_zero, List.getElem?_cons_succ]; rfl) (by kernel_rfl) (by kernel_rfl) (by kernel_rfl) (by intro _ _ _ h; exact h) (Or.inr ⟨by rfl, rfl⟩) hHeld ?_
        try simp only [Act.put, List.setIfInBounds_toArray, List.set_cons_zero, List.set_cons_succ]
        refine wpAnyH_take (i := 7) (v := undef) (by simp only [List.getElem?_toArray, List.getElem?_cons_zero, List.getElem?_cons_succ]; rfl) (by kernel_rfl) (by kernel_rfl) (by kernel_rfl) (by intro _ _ _ h; exact h) (Or.inr ⟨by rfl, rfl⟩) hHeld ?_
        try simp only [Act.put, List.setIfInBounds_toArray, List.set_cons_zero, List.set_cons_succ]
        refine wpAnyH_take (i := 8) (v := undef) (by simp only [List.getElem?_toArray, List.getElem?_cons_zero, List.getElem?_cons_succ]; rfl) (by kernel_rfl) (by kernel_rfl) (by kernel_rfl) (by intro _ _ _ h; exact h) (Or.inr ⟨by rfl, rfl⟩) hHeld ?_
        try simp only [Act.put, List.setIfInBounds_toArray, List.set_cons_zero, List.set_cons_succ]
        refine wpAnyH_take (i := 9) (v := undef) (by simp only [List.getElem?_toArray, List.getElem?_cons_zero, List.getElem?_cons_succ]; rfl) (by kernel_rfl) (by kernel_rfl) (by kernel_rfl) (by intro _ _ _ h; exact h) (Or.inr ⟨by rfl, rfl⟩) hHeld ?_
        try simp only [Act.put, List.setIfInBounds_toArray, List.set_cons_zero, List.set_cons_succ]
        refine wpAnyH_take (i := 10) (v := undef) (by simp only [List.getElem?_toArray, List.getElem?_cons_zero, List.getElem?_cons_succ]; rfl) (by kernel_rfl) (by kernel_rfl) (by kernel_rfl) (by intro _ _ _ h; exact h) (Or.inr ⟨by rfl, rfl⟩) hHeld ?_
        try simp only [Act.put, List.setIfInBounds_toArray, List.set_cons_zero, List.set_cons_succ]
        refine wpAnyH_take (i := 11) (v := undef) (by simp only [List.getElem?_toArray, List.getElem?_cons_zero, List.getElem?_cons_succ]; rfl) (by kernel_rfl) (by kernel_rfl) (by kernel_rfl) (by intro _ _ _ h; exact h) (Or.inr ⟨by rfl, rfl⟩) hHeld ?_
        try simp only [Act.put, List.setIfInBounds_toArray, List.set_cons_zero, List.set_cons_succ]
        refine wpAnyH_take (i := 12) (v := ?_) (by simp only [List.getElem?_toArray, List.getElem?_cons_zero, List.getElem?_cons_succ]; rfl) (by kernel_rfl) (by kernel_rfl) (by kernel_rfl) (by intro _ _ _ h; exact h) (Or.inl ⟨by rfl, ?_⟩) hHeld ?_
        rotate_left
        · (intro w hSw; (try dsimp only at hSw); go_simp; try with_reducible rfl)
        try simp only [Act.put, List.setIfInBounds_toArray, List.set_cons_zero, List.set_cons_succ]
        refine wpAnyH_done (by kernel_rfl) ?_ _
        clear hHeld
        have NH : Hid (j < j → kLt (L j).1.k k = false ∧ (L j).1.k ≠ k) := Lib.hid fun h => absurd h (by omega)
        obtain ⟨w9, hw9⟩ : ∃ w9, w9 = wr.drew.drew := ⟨_, rfl⟩
        have O9 : Hid (w9.ownsRow base 45 33 (.slice (some ⟨g, 0, none⟩) j c) j (flatS (fun i => cellsC (L i)) j)) := Lib.hid (by rw [hw9]; exact OW.out)
        have H49 : Hid (w9.heap[b4]? = some (.cells (u8l k).toArray 35)) := Lib.hid (by rw [hw9]; exact H4.out)
        have B9 : Hid (Below base w w9) := Lib.hid (by rw [hw9]; exact BW.out.drew.drew)
        rw [← hw9]
        clear hw9 OW H4 BW
        have i1 : (0 : Int) ≤ j := by omega
        have i3 : (j : Int) ≤ j := by omega
        have i4 : (j : Int) ≤ c := by have := HNC.out; omega
        have i5 : (j : Int) ≤ c := by omega
        have HL0 : Hid ((w9.alloc (.cells #[] 45)).ownsRow w9.heap.size 45 33 (.slice (some ⟨w9.heap.size, 0, none⟩) 0 0) 0 []) := Lib.hid (World.ownsRow_lit w9 #[] 0 (Nat.le_refl _) (by omega) rfl)
        have HSRC : Hid (SArr w9 w9.heap.size (some ⟨g, 0, none⟩) j 33 fun i => cellsC (L i)) := Lib.hid (srow_own (wideC L) O9.out)
        have HSR9 := HSRC
        have HGL : Hid (g < w9.heap.size) := Lib.hid (row_lt O9.out (k := g) rfl).2
        have H4L : Hid (b4 < w9.heap.size) := Lib.hid (heap_lt H49.out)
        have HF1 : Hid ((flatS (fun i => cellsC (L i)) j).length = j * 33) := Lib.hid (flatS_len (wideC L) j)
        have HON1 := Lib.hid (onesC L j)
        have HW0 : Hid (SArr (w9.alloc (.cells #[] 45)) w9.heap.size (some ⟨g, 0, none⟩) j 33 fun i => cellsC (L i)) := Lib.hid ((HSRC.out.less (by omega)).below (((Below.refl w9.heap.size w9).alloc (Nat.le_refl _) _)) (Nat.le_refl _))
        go_upto_region 8 with (at_builtin; refine wpList_append_any rfl _ _ 25 rfl w9.heap.size 45 i0 (.agg zC.toArray) 33 40 Try.underlying25 HI.out.1 HI.out.2.1 HI.out.2.2.1 HI.out.2.2.2 rfl (by decide) _ 0 [] rfl HL0.out (some ⟨g, 0, none⟩) j c (flatS (fun i => cellsC (L i)) j) rfl (fun e => by cases e) HF1.out (HW0.out.cellsAt (wideC L)) HON1.out (by unfold maxLen; omega) (by omega) (by simp) ?_; intro v5 w5 hown5 hg5)
        simp only [Nat.zero_add, List.nil_append] at hown5
        have B5 : Hid (Below w9.heap.size w9 w5) := Lib.hid (((Below.refl w9.heap.size w9).alloc (Nat.le_refl _) (.cells #[] 45)).grown hg5 (by simp) (fun q e => (row_lt HL0.out e).1))
        have OWN5 := Lib.hid hown5
        obtain ⟨A5, c5, rfl⟩ := row_shapeS hown5
        have RN4 : Hid (w5.rangeAt b4 0 (u8l k)) := Lib.hid (range_below (range_of H49.out) B5.out H4L.out)
        have HS5 : Hid (SArr w5 w9.heap.size (some ⟨g, 0, none⟩) j 33 fun i => cellsC (L i)) := Lib.hid (HSRC.out.below B5.out (Nat.le_refl _))
        have HS9 : Hid (w9.heap.size ≤ w5.heap.size) := Lib.hid B5.out.size
        clear hown5 hg5 HSRC HL0 HF1 HON1 HW0
        let cn : ElC := ⟨⟨k, x⟩, ⟨HK.out, HX.out⟩⟩
        have HCB : Hid (∀ u, BuildRun Try.prog 45 #[(0, .agg (u8l k).toArray), (1, .int .i64 x)] u (.agg (cellsC cn).toArray)) := Lib.hid fun u => buildCt k HK.out x u
        have HCL : Hid ((cellsC cn).length = 33) := Lib.hid (lenC cn)
        have HC1 := Lib.hid (oneC cn)
        have HINS : Hid (lst (insL L j cn) (j + 1) = addC (lst L j) k x) := Lib.hid (addC_ins (by omega) HLT.out NH.out cn rfl)
        have HFI : Hid (flatS (fun i => cellsC (L i)) j ++ cellsC cn ++ flatS (fun i => cellsC (L (j + i))) (j - j) = flatS (fun i => cellsC (insL L j cn i)) (j + 1)) := Lib.hid (flat_ins L cn (by omega))
        obtain ⟨M, hM⟩ : ∃ M, M = insL L j cn := ⟨_, rfl⟩
        rw [← hM] at HINS HFI
        obtain ⟨cs', hcs'⟩ : ∃ cs', cs' = cellsC cn := ⟨_, rfl⟩
        rw [← hcs'] at HCB HCL HC1 HFI
        clear hcs' hM cn
        go_upto_region 9 with (first | (refine wpList_load_midG rfl 35 (.tmp 4) rfl b4 0 rfl (u8l k) _ RN4.out Try.underlying35 rfl HKL.out ?_) | (refine wpList_buildG rfl 45 [(0, .tmp 55), (1, .tmp 56)] rfl _ rfl _ (HCB.out _) ?_) | (refine wpList_slice1 rfl 25 45 (.tmp 57) rfl cs' rfl i0 (.agg zC.toArray) Try.underlying25 HI.out.1 HI.out.2.1 (by rw [HCL.out]; exact HI.out.2.2.1) (by rw [HCL.out]; omega) (by rw [HCL.out]; omega) ?_) | (at_builtin; refine wpList_append_own _ rfl _ _ 25 rfl w9.heap.size 45 i0 (.agg zC.toArray) 33 40 Try.underlying25 HI.out.1 HI.out.2.1 HI.out.2.2.1 HI.out.2.2.2 rfl (by decide) _ j (flatS (fun i => cellsC (L i)) j) rfl (OWN5.out.alloc _) ⟨w5.heap.size, 0, none⟩ 1 1 cs' rfl (by rw [HCL.out]) (cells_at_new w5 cs' 45) HC1.out (by unfold maxLen; omega) (by omega) (by have := HS9.out; simp; omega) ?_; intro v6 w6 hown6 hg6 hv6))
        have B6 : Hid (Below w9.heap.size w9 w6) := Lib.hid ((B5.out.alloc HS9.out (.cells cs'.toArray 45)).grown hg6 (by have := HS9.out; simp; omega) (fun q e => (row_lt OWN5.out e).1))
        have HS6 : Hid (SArr w6 w9.heap.size (some ⟨g, 0, none⟩) j 33 fun i => cellsC (L i)) := Lib.hid (HSR9.out.below B6.out (Nat.le_refl _))
        have OWN6 := Lib.hid hown6
        obtain ⟨A6, c6, rfl⟩ := row_shapeS hown6
        have HS96 : Hid (w9.heap.size ≤ w6.heap.size) := Lib.hid B6.out.size
        clear hown6 hg6 hv6 OWN5 HS5 RN4 B5 HS9
        have HF2 : Hid ((flatS (fun i => cellsC (L (j + i))) (j - j)).length = (j - j) * 33) := Lib.hid (flatS_len (wideC fun i => L (j + i)) _)
        have HON2 := Lib.hid (onesC (fun i => L (j + i)) (j - j))
        have HBW : Hid (base ≤ w9.heap.size) := Lib.hid (Nat.le_trans HBB.out (Nat.le_of_lt H4L.out))
        have HFI2 := HFI
        rw [Nat.sub_self] at HFI2
        simp only [flatS, List.append_nil] at HFI2
        by_cases hcj : c = j
        · go_wp2_with (at_builtin; refine wpList_append_any rfl _ _ 25 rfl w9.heap.size 45 i0 (.agg zC.toArray) 33 40 Try.underlying25 HI.out.1 HI.out.2.1 HI.out.2.2.1 HI.out.2.2.2 rfl (by decide) _ (j + 1) _ rfl OWN6.out _ 0 _ [] rfl (fun e => by cases e) rfl (fun _ _ q u hq => by simp at hq) (fun u hu => by simp at hu) (by unfold maxLen; omega) (by omega) HS96.out ?_; intro v7 w7 hown7 hg7)
          simp only [Nat.add_zero, List.append_nil] at hown7
          rw [HFI2.out] at hown7
          have B7 : Hid (Below w9.heap.size w9 w7) := Lib.hid (B6.out.grown hg7 HS96.out (fun q e => (row_lt OWN6.out e).1))
          have OWN7 := Lib.hid hown7
          clear hown7 hg7 OWN6 HS6 B6
          go_wp2_with fail
          go_ret
          exact ⟨M, j + 1, _, rfl, HINS.out, Nat.le_refl _, row_more OWN7.out HBW.out, B9.out.trans (B7.out.mono HBW.out)⟩
        · go_wp2_with (at_builtin; refine wpList_append_any rfl _ _ 25 rfl w9.heap.size 45 i0 (.agg zC.toArray) 33 40 Try.underlying25 HI.out.1 HI.out.2.1 HI.out.2.2.1 HI.out.2.2.2 rfl (by decide) _ (j + 1) _ rfl OWN6.out _ 0 _ [] rfl (fun e => by cases e) rfl (fun _ _ q u hq => by simp at hq) (fun u hu => by simp at hu) (by unfold maxLen; omega) (by omega) HS96.out ?_; intro v7 w7 hown7 hg7)
          simp only [Nat.add_zero, List.append_nil] at hown7
          rw [HFI2.out] at hown7
          have B7 : Hid (Below w9.heap.size w9 w7) := Lib.hid (B6.out.grown hg7 HS96.out (fun q e => (row_lt OWN6.out e).1))
          have OWN7 := Lib.hid hown7
          clear hown7 hg7 OWN6 HS6 B6
          go_wp2_with fail
          go_ret
          exact ⟨M, j + 1, _, rfl, HINS.out, Nat.le_refl _, row_more OWN7.out HBW.out, B9.out.trans (B7.out.mono HBW.out)⟩
end Go.Proofs.Ytblfkngdieffiaa
