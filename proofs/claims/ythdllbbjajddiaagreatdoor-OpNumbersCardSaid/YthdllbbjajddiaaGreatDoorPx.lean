/- Layer 25 (op): are a write's rows right? -/
import Derived.Test.YthdllbbjajddiaaGreatDoorPv
import Derived.Test.YthdllbbjajddiaaGreatDoorMk2
set_option linter.all false
namespace Go.Proofs.YthdllbbjajddiaaGreatDoor
open Go.RowKit Go.Maps Go.WideMaps
def opV (kd x n s : Int) (A1 : Option Addr) (n1 c1 : Nat) (A2 : Option Addr) (n2 c2 : Nat) : Value := .agg #[.int .u8 kd, .int .i64 x, .int .i64 n, .int .i64 s, .slice A1 n1 c1, .slice A2 n2 c2]
def opL (kd x n s : Int) (A1 : Option Addr) (n1 c1 : Nat) (A2 : Option Addr) (n2 c2 : Nat) : List Value := [.int .u8 kd, .int .i64 x, .int .i64 n, .int .i64 s, .slice A1 n1 c1, .slice A2 n2 c2]
theorem lawK : KeyLaw Tryz.prog 44 := arrK.law
theorem keyedK : Keyed Tryz.prog 44 := Keyed.of_law arrK.law
theorem zero3 (w : World) : (zeroValue 3).run Tryz.prog w = .ok (.int .i64 0) w := by kernel_rfl
theorem keyK {ks : List Int} (h : KeyOk 32 ks) : keyOf Tryz.prog 44 (kv ks) = some (kl ks) := keyOf_arr arrK Tryz.underlying5 types_pos h
theorem wpList_tm_lookG {P : Program} (w : World) {ops : Array Oper} {rest : List Oper} {o : Oper} {a : Act} {Q : Exit → Act → World → Prop} (hg : Region.wanted o (yielded ops a.tmps) = true) (m x : Operand) (t k e : TypeId) (hop : o.op = Op.lookup t m x false)
    {N B n : Nat} {L : List Int → Option Int} (h : Tm P w k e N B n L) (K : KeyLaw P k) (ht : P.underlying t = some (.map k e)) (he : P.underlying e = some (.int .i64)) (hz : ∀ u : World, (zeroValue e).run P u = .ok (.int .i64 0) u)
    (hm : a.eval m = .map (some B)) (ks : List Int) (hx : a.eval x = kv ks) (hk : KeyOk N ks) (hkey : keyOf P k (kv ks) = some (kl ks)) (r : Int) (hr : (L ks).getD 0 = r)
    (hK : wpList P ops Q rest (a.put o.dst (.int .i64 r)) w) : wpList P ops Q (o :: rest) a w :=
  BigFrame.wpList_want hg fun _ hK' => wp_tm_look w m x t k e hop h K ht he hz hm ks hx hk hkey r hr (hK' _ _ hK)
theorem range_of {w : World} {b : Nat} {cs : List Value} {t : TypeId} {z : Nat × Nat} (h : w.heap[b]? = some (.cells cs.toArray t z)) : w.rangeAt b 0 cs := fun j v hj => block_cell h _ v (by rw [Nat.zero_add]; simpa using hj)
theorem fr_key (f : ElF) {w : World} {b : Nat} (h : w.rangeAt b 0 (cellsF f)) : w.rangeAt b 0 (u8l f.1.k) := by
  intro j v hj
  refine h j v ?_
  unfold cellsF frC
  rw [List.getElem?_append_left (by have := (List.getElem?_eq_some_iff.1 hj).1; exact this)]
  exact hj
theorem fr_place (f : ElF) {w : World} {b : Nat} (h : w.rangeAt b 0 (cellsF f)) : w.rangeAt b 32 [.int .i64 f.1.a, .int .i64 f.1.n, .int .i64 f.1.u, .int .i64 f.1.r] := by
  intro j v hj
  have := h (32 + j) v (by
    unfold cellsF frC
    rw [List.getElem?_append_right (by rw [u8l_len, f.2.key.len]; omega), u8l_len, f.2.key.len, Nat.add_sub_cancel_left]
    exact hj)
  rwa [Nat.zero_add] at this
theorem infoPl : (Tryz.prog.info? 51).map (·.size) = some 4 := by kernel_rfl
theorem zeroVPl (u : World) : (zeroValue 51).run Tryz.prog u = .ok (.agg #[.int .i64 0, .int .i64 0, .int .i64 0, .int .i64 0]) u := by kernel_rfl
theorem pu_cells (p : ElP) {w : World} {b : Nat} (h : w.rangeAt b 0 (cellsP p)) : w.cell? ⟨b, 0, none⟩ = some (.int .i64 p.1.x) ∧ w.cell? ⟨b, 33, none⟩ = some (.int .i64 p.1.o) ∧ w.cell? ⟨b, 34, none⟩ = some (.int .i64 p.1.m) := by
  refine ⟨h 0 _ rfl, ?_, ?_⟩
  · have := h 33 (.int .i64 p.1.o) (by
      unfold cellsP puC
      rw [List.getElem?_append_right (by simp), List.length_singleton, List.getElem?_append_right (by rw [u8l_len, p.2.key.len]; omega), u8l_len, p.2.key.len]; rfl)
    rwa [Nat.zero_add] at this
  · have := h 34 (.int .i64 p.1.m) (by
      unfold cellsP puC
      rw [List.getElem?_append_right (by simp), List.length_singleton, List.getElem?_append_right (by rw [u8l_len, p.2.key.len]; omega), u8l_len, p.2.key.len]; rfl)
    rwa [Nat.zero_add] at this
theorem least_bd : ∀ (l : List Pu) (a : Int), 0 ≤ a ∧ a ≤ 512 → putsB a l = true → 0 ≤ leastL a l ∧ leastL a l ≤ 512
  | [], _, h, _ => h
  | p :: l, a, h, h2 => by
    simp only [putsB, Bool.and_eq_true, decide_eq_true_eq] at h2
    exact least_bd l (p.x + 1) (by omega) h2.2
theorem ret_bool {a b : Bool} (h : a = b) : Ending.returned (.bool a) = .returned (.bool b) := by rw [h]
theorem seen_next (l : List Fr) (f : Fr) (h : f.k ∉ l.map Fr.k) (ks : List Int) : (if ks = f.k then some (1 : Int) else seenL l ks) = seenL (l ++ [f]) ks := by
  unfold seenL
  by_cases e : ks = f.k
  · rw [if_pos e, if_pos (by simp [e])]
  · rw [if_neg e]
    by_cases e2 : ks ∈ l.map Fr.k
    · rw [if_pos e2, if_pos (by rw [List.map_append]; exact List.mem_append_left _ e2)]
    · rw [if_neg e2, if_neg (by rw [List.map_append]; exact fun h => (List.mem_append.1 h).elim e2 fun h => e (by simpa using h))]
theorem seen_no {l : List Fr} {k : List Int} (h : k ∉ l.map Fr.k) : (seenL l k).getD 0 = 0 := by unfold seenL; rw [if_neg h]; rfl
theorem seen_yes {l : List Fr} {k : List Int} (h : k ∈ l.map Fr.k) : (seenL l k).getD 0 = 1 := by unfold seenL; rw [if_pos h]; rfl
set_option maxRecDepth 100000 in
set_option maxHeartbeats 4000000 in
theorem write29 (I : Nat → ElF) (P : Nat → ElP) (kd x n s : Int) (A1 : Option Addr) (n1 c1 : Nat) (A2 : Option Addr) (n2 c2 : Nat) (W : World) (hn1 : n1 ≤ 1000000000000) (hn2 : n2 ≤ 1000000000000)
    (ha1 : SArr W W.heap.size A1 n1 36 fun i => cellsF (I i)) (ha2 : SArr W W.heap.size A2 n2 35 fun i => cellsP (P i)) :
    Calls Tryz.prog 22 #[opV kd x n s A1 n1 c1 A2 n2 c2] W fun e W' => e = .returned (.bool (rowsB (nl I n1) (pl P n2))) ∧ Below W.heap.size W W' := by
  have H1 := Lib.hid ha1
  have H2 := Lib.hid ha2
  have HMM := @run_makeMap Tryz.prog
  obtain ⟨R, hR⟩ : ∃ R, R = rowsB (nl I n1) (pl P n2) := ⟨_, rfl⟩
  have HR := Lib.hid hR
  rw [← hR]
  clear ha1 ha2 hR
  unfold opV
  go_enter Tryz.func22, Tryz.ntmps22
  go_upto_region 2 with fail
  obtain ⟨w0, hw0⟩ : ∃ w0, w0 = (W.alloc (.cells #[.int .u8 kd, .int .i64 x, .int .i64 n, .int .i64 s, .slice A1 n1 c1, .slice A2 n2 c2] 26)).alloc (.map #[] 0) := ⟨_, rfl⟩
  have Q0 : Hid (w0.heap[W.heap.size]? = some (.cells #[.int .u8 kd, .int .i64 x, .int .i64 n, .int .i64 s, .slice A1 n1 c1, .slice A2 n2 c2] 26 (0, 0))) := Lib.hid (by rw [hw0]; exact heap_old (heap_new W _))
  have B0 : Hid (Below W.heap.size W w0) := Lib.hid (by rw [hw0]; exact ((Below.refl _ _).alloc (Nat.le_refl _) _).alloc (by simp) _)
  have T0 : Hid (Tm Tryz.prog w0 44 3 32 (W.heap.size + 1) 0 (seenL [])) := Lib.hid (by
    have := tm_made (P := Tryz.prog) (W.alloc (.cells #[.int .u8 kd, .int .i64 x, .int .i64 n, .int .i64 s, .slice A1 n1 c1, .slice A2 n2 c2] 26)) 44 3 32
    rw [← hw0] at this
    have e : (W.alloc (.cells #[.int .u8 kd, .int .i64 x, .int .i64 n, .int .i64 s, .slice A1 n1 c1, .slice A2 n2 c2] 26)).heap.size = W.heap.size + 1 := by simp
    rw [e] at this
    exact this.congr fun ks _ => rfl)
  obtain ⟨q0, hq0⟩ : ∃ q, q = W.heap.size := ⟨_, rfl⟩
  obtain ⟨B, hB⟩ : ∃ B, B = W.heap.size + 1 := ⟨_, rfl⟩
  rw [← hw0, ← hB, ← hq0]
  rw [← hq0] at Q0
  rw [← hB] at T0
  have HQB : Hid (W.heap.size = q0 ∧ B = q0 + 1) := Lib.hid ⟨hq0.symm, by omega⟩
  have QB : q0 ≠ B := by omega
  have BELOW : Hid (∀ wr, Keeps (fun j => j = B) w0 wr → Below W.heap.size W wr) := Lib.hid fun wr hk => B0.out.trans (hk.below (fun k e => by have e : k = B := e; omega) B0.out.size)
  have QW : Hid (∀ wr, Keeps (fun j => j = B) w0 wr → wr.heap[q0]? = some (.cells #[.int .u8 kd, .int .i64 x, .int .i64 n, .int .i64 s, .slice A1 n1 c1, .slice A2 n2 c2] 26 (0, 0))) := Lib.hid fun wr hk => hk.heap Q0.out QB
  have c4 : w0.cell? ⟨q0, 4, none⟩ = some (.slice A1 n1 c1) := block_cell Q0.out 4 _ rfl
  clear hw0 hq0 hB B0 HMM
  go_wp2_with fail
  clear c4
  go_loopw [14] (fun i wr => ∃ k n' : Nat, k ≤ n1 ∧ n' ≤ k ∧ i = .int .i64 k ∧ Tm Tryz.prog wr 44 3 32 B n' (seenL (nl I k)) ∧ Keeps (fun j => j = B) w0 wr ∧ newsOk (nl I k) = true) (fun i _ => n1 - (intOf i).toNat)
  case atStart => exact ⟨0, 0, Nat.zero_le _, Nat.le_refl _, rfl, T0.out, Keeps.refl _ _, rfl⟩
  case round =>
    clear T0
    obtain ⟨k, n', hk, hn', rfl, ht, hkp, hok⟩ := hrel
    have HT := Lib.hid ht
    have HK := Lib.hid hkp
    have HOK := Lib.hid hok
    clear ht hkp hok
    by_cases hlt : k < n1
    · obtain ⟨b, off, rfl, hb, hc⟩ := (H1.out.below (BELOW.out _ HK.out) (Nat.le_refl _)) (by omega)
      have HC : Hid (wr.rangeAt b (off + k * 36) (cellsF (I k))) := Lib.hid (hc k hlt)
      have HSZ := Lib.hid (sizeF (I k))
      have HLN := Lib.hid (lenF (I k))
      have HON := Lib.hid (oneF (I k))
      have ZL : Hid (zF.length = (cellsF (I k)).length) := Lib.hid (by rw [lenF]; rfl)
      have HSK := Lib.hid fun (W : World) (q : Nat) => fr_key (I k) (w := W) (b := q)
      have HPL := Lib.hid fun (W : World) (q : Nat) => fr_place (I k) (w := W) (b := q)
      have HKO := Lib.hid (I k).2.key
      have HNX := Lib.hid (nl_s I k)
      have HKB : Hid (newsOk (nl I (k + 1)) = (frB (I k).1 && decide ((I k).1.k ∉ (nl I k).map Fr.k))) := Lib.hid (by rw [nl_s, newsOk_snoc, HOK.out, Bool.true_and])
      have FAIL : Hid ((frB (I k).1 = false ∨ (I k).1.k ∈ (nl I k).map Fr.k) → R = false) := Lib.hid fun h => by
        rw [HR.out]
        refine rowsB_news (newsOk_false I (k := k + 1) ?_ n1 hlt)
        rw [HKB.out]
        rcases h with h | h
        · rw [h]; rfl
        · rw [decide_eq_false (fun h2 => h2 h), Bool.and_false]
      have SEEN := Lib.hid fun h => seen_next (nl I k) (I k).1 h
      obtain ⟨f, hf⟩ : ∃ f, f = (I k).1 := ⟨_, rfl⟩
      obtain ⟨cs, hcs⟩ : ∃ cs, cs = cellsF (I k) := ⟨_, rfl⟩
      obtain ⟨L, hL⟩ : ∃ L, L = nl I k := ⟨_, rfl⟩
      rw [← hcs] at HC HSZ HLN HON HSK HPL ZL
      rw [← hf] at HSK HPL HKO HNX HKB FAIL SEEN
      rw [← hL] at HT HOK HNX HKB FAIL SEEN
      have i1 : (0 : Int) ≤ k := by omega
      have i2 : (k : Int) < n1 := by omega
      clear hc hcs hf hL
      go_upto_region 5 with (first | (refine wpList_load_midG rfl 53 (.tmp 16) rfl b (off + k * 36) rfl cs _ HC.out Tryz.underlying53 rfl HSZ.out ?_) | (refine wpList_boxed rfl 53 5 rfl rfl zF (zeroVF _) (.tmp 17) rfl rfl rfl cs rfl rfl HSZ.out ZL.out HON.out ?_; intro w2 hb2 hh2 hs2))
      obtain ⟨b5, hb5⟩ : ∃ b5, b5 = wr.heap.size := ⟨_, rfl⟩
      rw [← hb5] at hh2 ⊢
      have R5 := Lib.hid (range_of hh2)
      have HT2 := Lib.hid (HT.out.keeps (hb2.block B (Tm.lt HT.out)))
      have HK2 := Lib.hid (HK.out.trans (Keeps.fresh (S := fun j => j = B) hb2) fun _ _ h => h)
      have HNB : b5 ≠ B := by have := Tm.lt HT.out; omega
      have HH5 := Lib.hid hh2
      have RP := Lib.hid (HPL.out w2 b5 R5.out)
      have PLO : Hid (∀ v ∈ ([.int .i64 f.a, .int .i64 f.n, .int .i64 f.u, .int .i64 f.r] : List Value), v.oneCell' = true) := Lib.hid (by simp [Value.oneCell'])
      clear hb2 hs2 hh2 hb5
      go_upto_region 6 with (first | (refine wpList_load_midG rfl 51 (.tmp 18) rfl b5 32 rfl [.int .i64 f.a, .int .i64 f.n, .int .i64 f.u, .int .i64 f.r] _ RP.out Tryz.underlying51 rfl infoPl ?_) | (refine wpList_boxed rfl 51 6 rfl rfl [.int .i64 0, .int .i64 0, .int .i64 0, .int .i64 0] (zeroVPl _) (.tmp 19) rfl rfl rfl [.int .i64 f.a, .int .i64 f.n, .int .i64 f.u, .int .i64 f.r] rfl rfl infoPl rfl PLO.out ?_; intro w3 hb3 hh3 hs3))
      obtain ⟨b6, hb6⟩ : ∃ b6, b6 = w2.heap.size := ⟨_, rfl⟩
      rw [← hb6] at hh3 ⊢
      have HT3 := Lib.hid (HT2.out.keeps (hb3.block B (Tm.lt HT2.out)))
      have HK3 := Lib.hid (HK2.out.trans (Keeps.fresh (S := fun j => j = B) hb3) fun _ _ h => h)
      have HNB6 : b6 ≠ B := by have := Tm.lt HT2.out; omega
      have HH6 := Lib.hid hh3
      have HH53 := Lib.hid ((hb3.block b5 (heap_lt HH5.out)).trans HH5.out)
      clear hb3 hs3 hh3 hb6 HT2 HK2 HT HK
      have HKEY := Lib.hid (keyK HKO.out)
      have HKL : Hid ((Tryz.prog.info? 44).map (·.size) = some (u8l f.k).length) := Lib.hid (by rw [u8l_len, HKO.out.len]; exact infoKey)
      obtain ⟨cc, hcc⟩ : ∃ cc, cc = (seenL L f.k).getD 0 := ⟨_, rfl⟩
      have HCC := Lib.hid hcc
      have hc01 : cc = 0 ∨ cc = 1 := by
        rw [hcc]; unfold seenL
        split
        · exact .inr rfl
        · exact .inl rfl
      have HT3d : Hid (Tm Tryz.prog w3.drew 44 3 32 B n' (seenL L)) := Lib.hid (HT3.out.keeps rfl)
      obtain ⟨st, w4, r4, t4, g4, h4⟩ := Tm.entry HT3d.out lawK Tryz.underlying90 Tryz.underlying3 zero3 (by unfold maxLen; omega) HKO.out HKEY.out (by rw [← hcc]; exact wf_i64 (by omega))
      rw [← hcc] at r4 t4
      obtain ⟨w5, r5, t5, g5⟩ := h4 w4 (cc + 1) (wf_i64 (by omega)) rfl
      have hw9 : IntKind.i64.wrap (cc + 1) = cc + 1 := IntWalk.i64_in _ (by omega)
      have RUN4 := Lib.hid r4
      have RUN5 := Lib.hid r5
      have T4 := Lib.hid t4
      obtain ⟨L2, hL2⟩ : ∃ L2, L2 = (fun ks' => if ks' = f.k then some (cc + 1) else seenL L ks') := ⟨_, rfl⟩
      rw [← hL2] at t5
      have T5 := Lib.hid t5
      have LC5 : Hid ((L2 f.k).getD 0 = cc + 1) := Lib.hid (by rw [hL2]; simp)
      have HL2 := Lib.hid hL2
      clear hL2
      have SD : Hid (w3.drew.rangeAt b5 0 (u8l f.k)) := Lib.hid (HSK.out w3.drew b5 (range_of (t := 53) (z := (0, 0)) HH53.out))
      have HH54 := Lib.hid ((g4.block b5 (heap_lt HH53.out) (by simpa using HNB)).trans HH53.out)
      have S4 : Hid (w4.rangeAt b5 0 (u8l f.k)) := Lib.hid (HSK.out w4 b5 (range_of HH54.out))
      have HH55 := Lib.hid ((g5.block b5 (heap_lt HH54.out) (by simpa using HNB)).trans HH54.out)
      have S5 : Hid (w5.rangeAt b5 0 (u8l f.k)) := Lib.hid (HSK.out w5 b5 (range_of HH55.out))
      have HH64 := Lib.hid ((g4.block b6 (heap_lt HH6.out) (by simpa using HNB6)).trans HH6.out)
      have HH65 := Lib.hid ((g5.block b6 (heap_lt HH64.out) (by simpa using HNB6)).trans HH64.out)
      have HK5 : Hid (Keeps (fun j => j = B) w0 w5) := Lib.hid (((HK3.out.trans (Keeps.drew (fun j => j = B) w3) fun _ _ h => h).trans (Keeps.grown (S := fun j => j = B) g4 fun k e => by cases e; rfl) fun _ _ h => h).trans (Keeps.grown (S := fun j => j = B) g5 fun k e => by cases e; rfl) fun _ _ h => h)
      have LC : Hid ((seenL L f.k).getD 0 = cc) := Lib.hid hcc.symm
      clear r4 r5 t4 t5 g4 g5 h4 hcc
      refine wp_region_held_drew (S := fun w' => w'.rangeAt b5 0 (u8l f.k)) (by kernel_rfl) SD.out (fun hHeld => ?_)
      refine wpAnyH_take (i := 0) (v := ?_) (by simp only [List.getElem?_toArray, List.getElem?_cons_zero]; rfl) (by kernel_rfl) (by kernel_rfl) (by kernel_rfl) (by intro _ _ _ h; exact h) (Or.inl ⟨by rfl, ?_⟩) hHeld ?_
      rotate_left
      · (intro w hSw; (try dsimp only at hSw); go_simp; try with_reducible rfl)
      try simp only [Act.put, List.setIfInBounds_toArray, List.set_cons_zero, List.set_cons_succ]
      refine wpAnyH_take (i := 1) (v := ?_) (by simp only [List.getElem?_toArray, List.getElem?_cons_zero, List.getElem?_cons_succ]; rfl) (by kernel_rfl) (by kernel_rfl) (by kernel_rfl) (by intro _ _ _ h; exact h) (Or.inl ⟨by rfl, ?_⟩) hHeld ?_
      rotate_left
      · (intro w hSw; (try dsimp only at hSw); go_simp; try with_reducible rfl)
      try simp only [Act.put, List.setIfInBounds_toArray, List.set_cons_zero, List.set_cons_succ]
      refine wpAnyH_take (i := 2) (v := _) (by simp only [List.getElem?_toArray, List.getElem?_cons_zero, List.getElem?_cons_succ]; rfl) (by kernel_rfl) (by kernel_rfl) (by kernel_rfl) (by intro _ _ _ h; exact h) (yieldsIf_load_mid (by rfl) 44 (.tmp 21) rfl b5 0 rfl (u8l f.k) _ (fun _ h => h) Tryz.underlying44 rfl HKL.out) hHeld ?_
      try simp only [Act.put, List.setIfInBounds_toArray, List.set_cons_zero, List.set_cons_succ]
      refine wpAnyH_ready (rs := [3, 5]) (by kernel_rfl) (by simp) ?_
      refine AllReadyH.cons (by simp only [List.getElem?_toArray, List.getElem?_cons_zero, List.getElem?_cons_succ]; rfl) (fun K hK => ?_) (AllReadyH.cons (by simp only [List.getElem?_toArray, List.getElem?_cons_zero, List.getElem?_cons_succ]; rfl) (fun K hK => ?_) AllReadyH.nil)
      · rw [if_pos (by rfl)]
        refine wp_tm_look _ (.tmp 20) (.tmp 22) 90 44 3 rfl HT3d.out lawK Tryz.underlying90 Tryz.underlying3 zero3 rfl f.k rfl HKO.out HKEY.out cc LC.out ?_
        refine hK.out _ _ SD.out (fun hHeld => ?_)
        clear hK K
        try simp only [Act.put, List.setIfInBounds_toArray, List.set_cons_zero, List.set_cons_succ]
        refine wpAnyH_take (i := 4) (v := ?_) (by simp only [List.getElem?_toArray, List.getElem?_cons_zero, List.getElem?_cons_succ]; rfl) (by kernel_rfl) (by kernel_rfl) (by kernel_rfl) (by intro _ _ _ h; exact h) (Or.inl ⟨by rfl, ?_⟩) hHeld ?_
        rotate_left
        · (intro w hSw; (try dsimp only at hSw); go_simp; try with_reducible rfl)
        try simp only [Act.put, List.setIfInBounds_toArray, List.set_cons_zero, List.set_cons_succ]
        refine wpAnyH_ready (rs := [5]) (by kernel_rfl) (by simp) ?_
        refine AllReadyH.cons (by simp only [List.getElem?_toArray, List.getElem?_cons_zero, List.getElem?_cons_succ]; rfl) (fun K hK => ?_) AllReadyH.nil
        rw [if_pos (by rfl)]
        refine wp_tm_entry _ (.tmp 20) (.tmp 22) 90 rfl (kv f.k) _ w4 RUN4.out rfl rfl ?_
        refine hK.out _ _ S4.out (fun hHeld => ?_)
        clear hK K
        try simp only [Act.put, List.setIfInBounds_toArray, List.set_cons_zero, List.set_cons_succ]
        refine wpAnyH_take (i := 6) (v := ?_) (by simp only [List.getElem?_toArray, List.getElem?_cons_zero, List.getElem?_cons_succ]; rfl) (by kernel_rfl) (by kernel_rfl) (by kernel_rfl) (by intro _ _ _ h; exact h) (Or.inl ⟨by rfl, ?_⟩) hHeld ?_
        rotate_left
        · (intro w hSw; (try dsimp only at hSw); go_simp; try with_reducible rfl)
        try simp only [Act.put, List.setIfInBounds_toArray, List.set_cons_zero, List.set_cons_succ]
        refine wpAnyH_ready (rs := [7]) (by kernel_rfl) (by simp) ?_
        refine AllReadyH.cons (by simp only [List.getElem?_toArray, List.getElem?_cons_zero, List.getElem?_cons_succ]; rfl) (fun K hK => ?_) AllReadyH.nil
        rw [if_pos (by rfl)]
        refine wp_tm_entryStore _ (.tmp 20) (.tmp 26) (.tmp 24) 90 rfl (goInt st) (.int .i64 (cc + 1)) w5 RUN5.out rfl rfl rfl ?_
        refine hK.out _ _ S5.out (fun hHeld => ?_)
        clear hK K
        try simp only [Act.put, List.setIfInBounds_toArray, List.set_cons_zero, List.set_cons_succ]
        refine wpAnyH_done (by kernel_rfl) ?_ _
        clear hHeld
        clear hw9
        have d0 : w5.cell? ⟨b6, 0, none⟩ = some (.int .i64 f.a) := block_cell HH65.out 0 _ rfl
        have d1 : w5.cell? ⟨b6, 1, none⟩ = some (.int .i64 f.n) := block_cell HH65.out 1 _ rfl
        have d2 : w5.cell? ⟨b6, 2, none⟩ = some (.int .i64 f.u) := block_cell HH65.out 2 _ rfl
        have d3 : w5.cell? ⟨b6, 3, none⟩ = some (.int .i64 f.r) := block_cell HH65.out 3 _ rfl
        by_cases ha : 0 ≤ f.a ∧ f.a ≤ 262144
        rotate_left
        · have hR0 : R = false := FAIL.out (.inl (by unfold frB; simp only [decide_eq_false ha, Bool.false_and]))
          have HR0 := Lib.hid hR0
          have HA0 := Lib.hid ha
          clear hR0 ha
          go_wp2_with fail
          refine (withinF f.a 0 262144 w5 HA0.out).mono ?_
          rintro e _ ⟨rfl, rfl⟩
          go_wp2_with fail
          go_ret
          exact ⟨ret_bool HR0.out.symm, BELOW.out _ HK5.out⟩
        have HA0 := Lib.hid ha
        by_cases hn : 1 ≤ f.n ∧ f.n ≤ 1024
        rotate_left
        · have hR0 : R = false := FAIL.out (.inl (by unfold frB; simp only [decide_eq_false hn, Bool.and_false, Bool.false_and]))
          have HR0 := Lib.hid hR0
          have HN0 := Lib.hid hn
          clear hR0 ha hn
          go_wp2_with fail
          refine (withinT f.a 0 262144 w5 HA0.out).mono ?_
          rintro e _ ⟨rfl, rfl⟩
          go_wp2_with fail
          refine (withinF f.n 1 1024 w5 HN0.out).mono ?_
          rintro e _ ⟨rfl, rfl⟩
          go_wp2_with fail
          go_ret
          exact ⟨ret_bool HR0.out.symm, BELOW.out _ HK5.out⟩
        have HN0 := Lib.hid hn
        by_cases hu : 1 ≤ f.u ∧ f.u ≤ 16
        rotate_left
        · have hR0 : R = false := FAIL.out (.inl (by unfold frB; simp only [decide_eq_false hu, Bool.and_false, Bool.false_and]))
          have HR0 := Lib.hid hR0
          have HU0 := Lib.hid hu
          clear hR0 ha hn hu
          go_wp2_with fail
          refine (withinT f.a 0 262144 w5 HA0.out).mono ?_
          rintro e _ ⟨rfl, rfl⟩
          go_wp2_with fail
          refine (withinT f.n 1 1024 w5 HN0.out).mono ?_
          rintro e _ ⟨rfl, rfl⟩
          go_wp2_with fail
          refine (withinF f.u 1 16 w5 HU0.out).mono ?_
          rintro e _ ⟨rfl, rfl⟩
          go_wp2_with fail
          go_ret
          exact ⟨ret_bool HR0.out.symm, BELOW.out _ HK5.out⟩
        have HU0 := Lib.hid hu
        by_cases hr : f.r = 0
        rotate_left
        · have hR0 : R = false := FAIL.out (.inl (by unfold frB; simp only [decide_eq_false hr, Bool.and_false, Bool.false_and]))
          have HR0 := Lib.hid hR0
          have z1 : (f.r != 0) = true := by simpa using hr
          have z2 : (f.r == 0) = false := by simpa using hr
          clear hR0 ha hn hu hr
          go_wp2_with fail
          refine (withinT f.a 0 262144 w5 HA0.out).mono ?_
          rintro e _ ⟨rfl, rfl⟩
          go_wp2_with fail
          refine (withinT f.n 1 1024 w5 HN0.out).mono ?_
          rintro e _ ⟨rfl, rfl⟩
          go_wp2_with fail
          refine (withinT f.u 1 16 w5 HU0.out).mono ?_
          rintro e _ ⟨rfl, rfl⟩
          go_wp2_with fail
          go_ret
          exact ⟨ret_bool HR0.out.symm, BELOW.out _ HK5.out⟩
        have HFR : Hid (frB f = true) := Lib.hid (by unfold frB; simp only [decide_eq_true ha, decide_eq_true hn, decide_eq_true hu, decide_eq_true hr, Bool.and_true])
        have z1 : (f.r != 0) = false := by simpa using hr
        have z2 : (f.r == 0) = true := by simpa using hr
        clear ha hn hu hr
        by_cases hd : f.k ∈ L.map Fr.k
        · have hR0 : R = false := FAIL.out (.inr hd)
          have HR0 := Lib.hid hR0
          obtain rfl : cc = 1 := by rw [HCC.out]; exact seen_yes hd
          clear hR0 hd
          go_wp2_with fail
          refine (withinT f.a 0 262144 w5 HA0.out).mono ?_
          rintro e _ ⟨rfl, rfl⟩
          go_wp2_with fail
          refine (withinT f.n 1 1024 w5 HN0.out).mono ?_
          rintro e _ ⟨rfl, rfl⟩
          go_wp2_with fail
          refine (withinT f.u 1 16 w5 HU0.out).mono ?_
          rintro e _ ⟨rfl, rfl⟩
          go_wp2_with (first | (refine wpList_load_midG rfl 44 (.tmp 50) rfl b5 0 rfl (u8l f.k) _ S5.out Tryz.underlying44 rfl HKL.out ?_) | (refine wpList_tm_lookG _ rfl (.tmp 49) (.tmp 51) 90 44 3 rfl T5.out lawK Tryz.underlying90 Tryz.underlying3 zero3 rfl f.k rfl HKO.out HKEY.out (1 + 1) LC5.out ?_))
          go_ret
          exact ⟨ret_bool HR0.out.symm, BELOW.out _ HK5.out⟩
        · obtain rfl : cc = 0 := by rw [HCC.out]; exact seen_no hd
          have T6 : Hid (Tm Tryz.prog w5 44 3 32 B (n' + 1) (seenL (nl I (k + 1)))) := Lib.hid (by
            rw [HNX.out]
            exact Tm.congr T5.out fun ks _ => by rw [HL2.out]; exact SEEN.out hd ks)
          have HOK6 : Hid (newsOk (nl I (k + 1)) = true) := Lib.hid (by rw [HKB.out, HFR.out, decide_eq_true hd]; rfl)
          clear hd
          go_wp2_with fail
          refine (withinT f.a 0 262144 w5 HA0.out).mono ?_
          rintro e _ ⟨rfl, rfl⟩
          go_wp2_with fail
          refine (withinT f.n 1 1024 w5 HN0.out).mono ?_
          rintro e _ ⟨rfl, rfl⟩
          go_wp2_with fail
          refine (withinT f.u 1 16 w5 HU0.out).mono ?_
          rintro e _ ⟨rfl, rfl⟩
          go_wp2_with (first | (refine wpList_load_midG rfl 44 (.tmp 50) rfl b5 0 rfl (u8l f.k) _ S5.out Tryz.underlying44 rfl HKL.out ?_) | (refine wpList_tm_lookG _ rfl (.tmp 49) (.tmp 51) 90 44 3 rfl T5.out lawK Tryz.underlying90 Tryz.underlying3 zero3 rfl f.k rfl HKO.out HKEY.out (0 + 1) LC5.out ?_))
          go_roundw
          case rel => exact ⟨k + 1, n' + 1, by omega, by omega, by go_num, T6.out, HK5.out, HOK6.out⟩
          case measure => simp [intOf]; omega
      · rw [if_pos (by rfl)]
        refine wp_tm_entry _ (.tmp 20) (.tmp 22) 90 rfl (kv f.k) _ w4 RUN4.out rfl rfl ?_
        refine hK.out _ _ S4.out (fun hHeld => ?_)
        clear hK K
        try simp only [Act.put, List.setIfInBounds_toArray, List.set_cons_zero, List.set_cons_succ]
        refine wpAnyH_take (i := 6) (v := ?_) (by simp only [List.getElem?_toArray, List.getElem?_cons_zero, List.getElem?_cons_succ]; rfl) (by kernel_rfl) (by kernel_rfl) (by kernel_rfl) (by intro _ _ _ h; exact h) (Or.inl ⟨by rfl, ?_⟩) hHeld ?_
        rotate_left
        · (intro w hSw; (try dsimp only at hSw); go_simp; try with_reducible rfl)
        try simp only [Act.put, List.setIfInBounds_toArray, List.set_cons_zero, List.set_cons_succ]
        refine wpAnyH_ready (rs := [3]) (by kernel_rfl) (by simp) ?_
        refine AllReadyH.cons (by simp only [List.getElem?_toArray, List.getElem?_cons_zero, List.getElem?_cons_succ]; rfl) (fun K hK => ?_) AllReadyH.nil
        rw [if_pos (by rfl)]
        refine wp_tm_look _ (.tmp 20) (.tmp 22) 90 44 3 rfl T4.out lawK Tryz.underlying90 Tryz.underlying3 zero3 rfl f.k rfl HKO.out HKEY.out cc (by simp) ?_
        refine hK.out _ _ S4.out (fun hHeld => ?_)
        clear hK K
        try simp only [Act.put, List.setIfInBounds_toArray, List.set_cons_zero, List.set_cons_succ]
        refine wpAnyH_take (i := 4) (v := ?_) (by simp only [List.getElem?_toArray, List.getElem?_cons_zero, List.getElem?_cons_succ]; rfl) (by kernel_rfl) (by kernel_rfl) (by kernel_rfl) (by intro _ _ _ h; exact h) (Or.inl ⟨by rfl, ?_⟩) hHeld ?_
        rotate_left
        · (intro w hSw; (try dsimp only at hSw); go_simp; try with_reducible rfl)
        try simp only [Act.put, List.setIfInBounds_toArray, List.set_cons_zero, List.set_cons_succ]
        refine wpAnyH_ready (rs := [7]) (by kernel_rfl) (by simp) ?_
        refine AllReadyH.cons (by simp only [List.getElem?_toArray, List.getElem?_cons_zero, List.getElem?_cons_succ]; rfl) (fun K hK => ?_) AllReadyH.nil
        rw [if_pos (by rfl)]
        refine wp_tm_entryStore _ (.tmp 20) (.tmp 26) (.tmp 24) 90 rfl (goInt st) (.int .i64 (cc + 1)) w5 RUN5.out rfl rfl rfl ?_
        refine hK.out _ _ S5.out (fun hHeld => ?_)
        clear hK K
        try simp only [Act.put, List.setIfInBounds_toArray, List.set_cons_zero, List.set_cons_succ]
        refine wpAnyH_done (by kernel_rfl) ?_ _
        clear hHeld
        clear hw9
        have d0 : w5.cell? ⟨b6, 0, none⟩ = some (.int .i64 f.a) := block_cell HH65.out 0 _ rfl
        have d1 : w5.cell? ⟨b6, 1, none⟩ = some (.int .i64 f.n) := block_cell HH65.out 1 _ rfl
        have d2 : w5.cell? ⟨b6, 2, none⟩ = some (.int .i64 f.u) := block_cell HH65.out 2 _ rfl
        have d3 : w5.cell? ⟨b6, 3, none⟩ = some (.int .i64 f.r) := block_cell HH65.out 3 _ rfl
        by_cases ha : 0 ≤ f.a ∧ f.a ≤ 262144
        rotate_left
        · have hR0 : R = false := FAIL.out (.inl (by unfold frB; simp only [decide_eq_false ha, Bool.false_and]))
          have HR0 := Lib.hid hR0
          have HA0 := Lib.hid ha
          clear hR0 ha
          go_wp2_with fail
          refine (withinF f.a 0 262144 w5 HA0.out).mono ?_
          rintro e _ ⟨rfl, rfl⟩
          go_wp2_with fail
          go_ret
          exact ⟨ret_bool HR0.out.symm, BELOW.out _ HK5.out⟩
        have HA0 := Lib.hid ha
        by_cases hn : 1 ≤ f.n ∧ f.n ≤ 1024
        rotate_left
        · have hR0 : R = false := FAIL.out (.inl (by unfold frB; simp only [decide_eq_false hn, Bool.and_false, Bool.false_and]))
          have HR0 := Lib.hid hR0
          have HN0 := Lib.hid hn
          clear hR0 ha hn
          go_wp2_with fail
          refine (withinT f.a 0 262144 w5 HA0.out).mono ?_
          rintro e _ ⟨rfl, rfl⟩
          go_wp2_with fail
          refine (withinF f.n 1 1024 w5 HN0.out).mono ?_
          rintro e _ ⟨rfl, rfl⟩
          go_wp2_with fail
          go_ret
          exact ⟨ret_bool HR0.out.symm, BELOW.out _ HK5.out⟩
        have HN0 := Lib.hid hn
        by_cases hu : 1 ≤ f.u ∧ f.u ≤ 16
        rotate_left
        · have hR0 : R = false := FAIL.out (.inl (by unfold frB; simp only [decide_eq_false hu, Bool.and_false, Bool.false_and]))
          have HR0 := Lib.hid hR0
          have HU0 := Lib.hid hu
          clear hR0 ha hn hu
          go_wp2_with fail
          refine (withinT f.a 0 262144 w5 HA0.out).mono ?_
          rintro e _ ⟨rfl, rfl⟩
          go_wp2_with fail
          refine (withinT f.n 1 1024 w5 HN0.out).mono ?_
          rintro e _ ⟨rfl, rfl⟩
          go_wp2_with fail
          refine (withinF f.u 1 16 w5 HU0.out).mono ?_
          rintro e _ ⟨rfl, rfl⟩
          go_wp2_with fail
          go_ret
          exact ⟨ret_bool HR0.out.symm, BELOW.out _ HK5.out⟩
        have HU0 := Lib.hid hu
        by_cases hr : f.r = 0
        rotate_left
        · have hR0 : R = false := FAIL.out (.inl (by unfold frB; simp only [decide_eq_false hr, Bool.and_false, Bool.false_and]))
          have HR0 := Lib.hid hR0
          have z1 : (f.r != 0) = true := by simpa using hr
          have z2 : (f.r == 0) = false := by simpa using hr
          clear hR0 ha hn hu hr
          go_wp2_with fail
          refine (withinT f.a 0 262144 w5 HA0.out).mono ?_
          rintro e _ ⟨rfl, rfl⟩
          go_wp2_with fail
          refine (withinT f.n 1 1024 w5 HN0.out).mono ?_
          rintro e _ ⟨rfl, rfl⟩
          go_wp2_with fail
          refine (withinT f.u 1 16 w5 HU0.out).mono ?_
          rintro e _ ⟨rfl, rfl⟩
          go_wp2_with fail
          go_ret
          exact ⟨ret_bool HR0.out.symm, BELOW.out _ HK5.out⟩
        have HFR : Hid (frB f = true) := Lib.hid (by unfold frB; simp only [decide_eq_true ha, decide_eq_true hn, decide_eq_true hu, decide_eq_true hr, Bool.and_true])
        have z1 : (f.r != 0) = false := by simpa using hr
        have z2 : (f.r == 0) = true := by simpa using hr
        clear ha hn hu hr
        by_cases hd : f.k ∈ L.map Fr.k
        · have hR0 : R = false := FAIL.out (.inr hd)
          have HR0 := Lib.hid hR0
          obtain rfl : cc = 1 := by rw [HCC.out]; exact seen_yes hd
          clear hR0 hd
          go_wp2_with fail
          refine (withinT f.a 0 262144 w5 HA0.out).mono ?_
          rintro e _ ⟨rfl, rfl⟩
          go_wp2_with fail
          refine (withinT f.n 1 1024 w5 HN0.out).mono ?_
          rintro e _ ⟨rfl, rfl⟩
          go_wp2_with fail
          refine (withinT f.u 1 16 w5 HU0.out).mono ?_
          rintro e _ ⟨rfl, rfl⟩
          go_wp2_with (first | (refine wpList_load_midG rfl 44 (.tmp 50) rfl b5 0 rfl (u8l f.k) _ S5.out Tryz.underlying44 rfl HKL.out ?_) | (refine wpList_tm_lookG _ rfl (.tmp 49) (.tmp 51) 90 44 3 rfl T5.out lawK Tryz.underlying90 Tryz.underlying3 zero3 rfl f.k rfl HKO.out HKEY.out (1 + 1) LC5.out ?_))
          go_ret
          exact ⟨ret_bool HR0.out.symm, BELOW.out _ HK5.out⟩
        · obtain rfl : cc = 0 := by rw [HCC.out]; exact seen_no hd
          have T6 : Hid (Tm Tryz.prog w5 44 3 32 B (n' + 1) (seenL (nl I (k + 1)))) := Lib.hid (by
            rw [HNX.out]
            exact Tm.congr T5.out fun ks _ => by rw [HL2.out]; exact SEEN.out hd ks)
          have HOK6 : Hid (newsOk (nl I (k + 1)) = true) := Lib.hid (by rw [HKB.out, HFR.out, decide_eq_true hd]; rfl)
          clear hd
          go_wp2_with fail
          refine (withinT f.a 0 262144 w5 HA0.out).mono ?_
          rintro e _ ⟨rfl, rfl⟩
          go_wp2_with fail
          refine (withinT f.n 1 1024 w5 HN0.out).mono ?_
          rintro e _ ⟨rfl, rfl⟩
          go_wp2_with fail
          refine (withinT f.u 1 16 w5 HU0.out).mono ?_
          rintro e _ ⟨rfl, rfl⟩
          go_wp2_with (first | (refine wpList_load_midG rfl 44 (.tmp 50) rfl b5 0 rfl (u8l f.k) _ S5.out Tryz.underlying44 rfl HKL.out ?_) | (refine wpList_tm_lookG _ rfl (.tmp 49) (.tmp 51) 90 44 3 rfl T5.out lawK Tryz.underlying90 Tryz.underlying3 zero3 rfl f.k rfl HKO.out HKEY.out (0 + 1) LC5.out ?_))
          go_roundw
          case rel => exact ⟨k + 1, n' + 1, by omega, by omega, by go_num, T6.out, HK5.out, HOK6.out⟩
          case measure => simp [intOf]; omega
    · obtain rfl : k = n1 := by omega
      have HK := HK
      have t1 : decide ((k : Int) < k) = false := by simp
      obtain ⟨w1, hw1⟩ : ∃ w1, w1 = wr := ⟨_, rfl⟩
      rw [← hw1] at HK ⊢
      clear hw1 HT
      have Q1 := Lib.hid (QW.out _ HK.out)
      have c5 : w1.cell? ⟨q0, 5, none⟩ = some (.slice A2 n2 c2) := block_cell Q1.out 5 _ rfl
      go_wp2_with fail
      clear c5 t1
      go_loopw [7, 59] (fun v i wr => ∃ k : Nat, k ≤ n2 ∧ i = .int .i64 k ∧ v = .int .i64 (leastL 0 (pl P k)) ∧ Below w1.heap.size w1 wr ∧ putsB 0 (pl P k) = true) (fun _ i _ => n2 - (intOf i).toNat)
      case atStart => exact ⟨0, Nat.zero_le _, rfl, rfl, Below.refl _ _, rfl⟩
      case round =>
        obtain ⟨j, hj, rfl, rfl, hb, hok⟩ := hrel
        have HB := Lib.hid hb
        have HPO := Lib.hid hok
        have hlb := least_bd (pl P j) 0 (by decide) hok
        have BW : Hid (Below W.heap.size W wr) := Lib.hid ((BELOW.out _ HK.out).trans (hb.mono (BELOW.out _ HK.out).size))
        clear hb hok
        by_cases hlt : j < n2
        · obtain ⟨b, off, rfl, hb, hc⟩ := (H2.out.below BW.out (Nat.le_refl _)) (by omega)
          have HC : Hid (wr.rangeAt b (off + j * 35) (cellsP (P j))) := Lib.hid (hc j hlt)
          have HSZ := Lib.hid (sizeP (P j))
          have HON := Lib.hid (oneP (P j))
          have ZL : Hid (zP.length = (cellsP (P j)).length) := Lib.hid (by rw [lenP]; rfl)
          have HCE := Lib.hid fun (W : World) (q : Nat) => pu_cells (P j) (w := W) (b := q)
          have HKB : Hid (putsB 0 (pl P (j + 1)) = putOk (leastL 0 (pl P j)) (P j).1) := Lib.hid (by rw [pl_s, putsB_snoc, HPO.out, Bool.true_and])
          have HNX : Hid (leastL 0 (pl P (j + 1)) = (P j).1.x + 1) := Lib.hid (by rw [pl_s, leastL_snoc])
          have FAIL : Hid (putOk (leastL 0 (pl P j)) (P j).1 = false → R = false) := Lib.hid fun h => by
            rw [HR.out]
            exact rowsB_puts (putsB_false P (k := j + 1) (by rw [HKB.out, h]) n2 hlt)
          obtain ⟨p, hp⟩ : ∃ p, p = (P j).1 := ⟨_, rfl⟩
          obtain ⟨cs, hcs⟩ : ∃ cs, cs = cellsP (P j) := ⟨_, rfl⟩
          obtain ⟨le, hle⟩ : ∃ le, le = leastL 0 (pl P j) := ⟨_, rfl⟩
          rw [← hcs] at HC HSZ HON ZL HCE
          rw [← hp] at HCE HKB HNX FAIL
          rw [← hle] at HKB FAIL hlb ⊢
          have i1 : (0 : Int) ≤ j := by omega
          have i2 : (j : Int) < n2 := by omega
          clear hc hcs hp hle
          go_upto_region 14 with (first | (refine wpList_load_midG rfl 48 (.tmp 61) rfl b (off + j * 35) rfl cs _ HC.out Tryz.underlying48 rfl HSZ.out ?_) | (refine wpList_boxed rfl 48 9 rfl rfl zP (zeroVP _) (.tmp 62) rfl rfl rfl cs rfl rfl HSZ.out ZL.out HON.out ?_; intro w2 hb2 hh2 hs2))
          obtain ⟨b9, hb9⟩ : ∃ b9, b9 = wr.heap.size := ⟨_, rfl⟩
          rw [← hb9] at hh2 ⊢
          obtain ⟨d0, d1, d2⟩ := HCE.out w2 b9 (range_of hh2)
          have HB2 := Lib.hid (HB.out.trans (hb2.mono HB.out.size))
          have BW2 := Lib.hid (BW.out.trans (hb2.mono BW.out.size))
          clear hb2 hs2 hh2 hb9 HC HCE HB BW
          by_cases hx : le ≤ p.x ∧ p.x ≤ 511
          rotate_left
          · have HR0 : Hid (R = false) := Lib.hid (FAIL.out (by unfold putOk; simp only [decide_eq_false hx, Bool.false_and]))
            have HX0 := Lib.hid hx
            clear hx
            go_wp2_with fail
            refine (withinF p.x le 511 w2 HX0.out).mono ?_
            rintro e _ ⟨rfl, rfl⟩
            go_wp2_with fail
            go_ret
            exact ⟨ret_bool HR0.out.symm, BW2.out⟩
          have HX0 := Lib.hid hx
          by_cases ho : 0 ≤ p.o ∧ p.o ≤ 15
          rotate_left
          · have HR0 : Hid (R = false) := Lib.hid (FAIL.out (by unfold putOk; simp only [decide_eq_false ho, Bool.and_false, Bool.false_and]))
            have HO0 := Lib.hid ho
            clear hx ho
            go_wp2_with fail
            refine (withinT p.x le 511 w2 HX0.out).mono ?_
            rintro e _ ⟨rfl, rfl⟩
            go_wp2_with fail
            refine (withinF p.o 0 15 w2 HO0.out).mono ?_
            rintro e _ ⟨rfl, rfl⟩
            go_wp2_with fail
            go_ret
            exact ⟨ret_bool HR0.out.symm, BW2.out⟩
          have HO0 := Lib.hid ho
          by_cases hm : 1 ≤ p.m ∧ p.m ≤ 255
          rotate_left
          · have HR0 : Hid (R = false) := Lib.hid (FAIL.out (by unfold putOk; simp only [decide_eq_false hm, Bool.and_false]))
            have HM0 := Lib.hid hm
            clear hx ho hm
            go_wp2_with fail
            refine (withinT p.x le 511 w2 HX0.out).mono ?_
            rintro e _ ⟨rfl, rfl⟩
            go_wp2_with fail
            refine (withinT p.o 0 15 w2 HO0.out).mono ?_
            rintro e _ ⟨rfl, rfl⟩
            go_wp2_with fail
            refine (withinF p.m 1 255 w2 HM0.out).mono ?_
            rintro e _ ⟨rfl, rfl⟩
            go_wp2_with fail
            go_ret
            exact ⟨ret_bool HR0.out.symm, BW2.out⟩
          have HM0 := Lib.hid hm
          have HPO2 : Hid (putsB 0 (pl P (j + 1)) = true) := Lib.hid (by rw [HKB.out]; unfold putOk; simp only [decide_eq_true hx, decide_eq_true ho, decide_eq_true hm, Bool.and_true])
          have hx1 : 0 ≤ p.x := by omega
          have hx2 : p.x ≤ 511 := by omega
          clear hx ho hm
          go_wp2_with fail
          refine (withinT p.x le 511 w2 HX0.out).mono ?_
          rintro e _ ⟨rfl, rfl⟩
          go_wp2_with fail
          refine (withinT p.o 0 15 w2 HO0.out).mono ?_
          rintro e _ ⟨rfl, rfl⟩
          go_wp2_with fail
          refine (withinT p.m 1 255 w2 HM0.out).mono ?_
          rintro e _ ⟨rfl, rfl⟩
          go_wp2_with fail
          go_roundw
          case rel => exact ⟨j + 1, by omega, by go_num, by rw [HNX.out], HB2.out, HPO2.out⟩
          case measure => simp [intOf]; omega
        · obtain rfl : j = n2 := by omega
          have HRE : Hid (R = (decide (k ≤ 18) && decide (j ≤ 18))) := Lib.hid (by rw [HR.out, rowsB_len HOK.out HPO.out, nl_len, pl_len])
          have Q2 := Lib.hid ((HB.out.block q0 (heap_lt Q1.out)).trans Q1.out)
          have c4 : wr.cell? ⟨q0, 4, none⟩ = some (.slice A1 k c1) := block_cell Q2.out 4 _ rfl
          have c5 : wr.cell? ⟨q0, 5, none⟩ = some (.slice A2 j c2) := block_cell Q2.out 5 _ rfl
          by_cases h1 : k ≤ 18
          · have u1 : decide ((k : Int) ≤ 18) = true := by simp; omega
            by_cases h2 : j ≤ 18
            · have u2 : decide ((j : Int) ≤ 18) = true := by simp; omega
              have HR1 : Hid (true = R) := Lib.hid (by rw [HRE.out, decide_eq_true h1, decide_eq_true h2]; rfl)
              clear h1 h2
              go_wp2_with fail
              go_ret
              exact ⟨ret_bool HR1.out, BW.out⟩
            · have u2 : decide ((j : Int) ≤ 18) = false := by simp; omega
              have HR1 : Hid (false = R) := Lib.hid (by rw [HRE.out, decide_eq_false h2, Bool.and_false])
              clear h1 h2
              go_wp2_with fail
              go_ret
              exact ⟨ret_bool HR1.out, BW.out⟩
          · have u1 : decide ((k : Int) ≤ 18) = false := by simp; omega
            have HR1 : Hid (false = R) := Lib.hid (by rw [HRE.out, decide_eq_false h1]; rfl)
            clear h1
            go_wp2_with fail
            go_ret
            exact ⟨ret_bool HR1.out, BW.out⟩
end Go.Proofs.YthdllbbjajddiaaGreatDoor
