/- The law LzRows of layer 5 (lz): it returns true at every input. -/
import Derived.Test.YtbaibkckigdndaaV
import Derived.Laws.AppendOwnNone
namespace Go.Proofs.Ytbaibkckigdndaa
open Go.RowKit
section
variable {P : Program} {w : World} {ops : Array Oper} {rest : List Oper} {o : Oper} {a : Act} {Q : Exit → Act → World → Prop}
/-- append to a row that the call owns, whatever the source: nil too; the operation may be guarded. -/
theorem wpList_append_any (hg : Region.wanted o (yielded ops a.tmps) = true) (s x : Operand) (t : TypeId) (ho : o.op = .call { callee := .builtin .append, args := #[s, x], argTypes := #[t, t] })
    (base : Nat) (e : TypeId) (i : TypeInfo) (z : Value) (size bytes : Nat) (ht : P.underlying t = some (.slice e)) (hi : P.info? e = some i) (hz : i.zero = some z)
    (hsize : i.size = size) (hby : i.bytes = bytes) (hzs : z.cells.size = size) (hsz : 0 < size)
    (v : Value) (n : Nat) (xs : List Value) (hs : a.eval s = v) (hown : w.ownsRow base e size v n xs)
    (A : Option Addr) (m c : Nat) (news : List Value) (hx : a.eval x = .slice A m c) (hA : A = none → m = 0 ∧ c = 0) (hl : news.length = m * size) (hnews : ∀ ad, A = some ad → ∀ j u, news[j]? = some u → w.cell? (ad.add j) = some u) (h1 : ∀ u ∈ news, u.oneCell' = true)
    (h63 : n + m ≤ maxLen) (hbytes : (n + m) * bytes ≤ 140737488355328) (hbase : base ≤ w.heap.size)
    (h : ∀ v' w', w'.ownsRow base e size v' (n + m) (xs ++ news) → w.grownBy w' v.ownBlock → wpList P ops Q rest (a.put o.dst v') w') : wpList P ops Q (o :: rest) a w := by
  refine BigFrame.wpList_want hg fun K hK => ?_
  cases A with
  | none =>
    obtain ⟨rfl, rfl⟩ := hA rfl
    have hn : news = [] := List.eq_nil_of_length_eq_zero (by rw [hl, Nat.zero_mul])
    subst hn
    have hrun := run_append_owned_none (P := P) (w := w) base t o.type e i size ht hi v n xs hown
    have hk := hK _ _ (h v w (by rw [List.append_nil]; exact hown) ⟨rfl, rfl, rfl, Nat.le_refl _, fun _ _ _ => rfl⟩)
    unfold Oper.wp
    simp [execOp, ho, resolve, invoke, builtin, hs, hx, hrun, Result.andThen]
    exact hk
  | some ad => exact wp_append_own w s x t ho base e i z size bytes ht hi hz hsize hby hzs hsz v n xs hs hown ad m c news hx hl (hnews ad rfl) h1 h63 hbytes hbase fun v' w' h2 h3 _ => hK _ _ (h v' w' h2 h3)
end
theorem flatS_append (F G : Nat → List Value) (K : Nat) : ∀ L, flatS F K ++ flatS G L = flatS (fun i => if i < K then F i else G (i - K)) (K + L)
  | 0 => by
    rw [Nat.add_zero]
    show flatS F K ++ [] = _
    rw [List.append_nil]
    exact flatS_congr fun j hj => by rw [if_pos hj]
  | L + 1 => by
    rw [← Nat.add_assoc, flatS, flatS, ← List.append_assoc, flatS_append F G K L, if_neg (by omega), Nat.add_sub_cancel_left]
theorem cells_one3 (P : Nat → Pc) (n : Nat) : ∀ u ∈ flatS (pcsF P) n, u.oneCell' = true := flatS_one fun j _ u hu => by
  simp [pcsF, Pc.cells] at hu
  rcases hu with rfl | rfl | rfl <;> rfl
theorem copy24 (f : Nat → Int) (A : Option Addr) (n c : Nat) (w : World) (hn : n ≤ 1099511627776) (hA : A = none → n = 0 ∧ c = 0) (ha : Arr w w.heap.size A n fun j => .int .u8 (f j)) :
    Calls Try.prog 24 #[.slice A n c] w fun e w' => ∃ v, e = .returned v ∧ w'.ownsRow w.heap.size 5 1 v n ((List.range n).map fun j => .int .u8 (f j)) ∧ Below w.heap.size w w' := by
  obtain ⟨i0, hi, hz0, hz1, hz2⟩ := infoParts info5
  have HA := Lib.hid hA
  have HH := Lib.hid ha
  clear hA ha
  go_enter Try.func24, Try.ntmps24
  go_wp2_with (at_builtin; refine wpList_append_any rfl _ _ 25 rfl w.heap.size 5 i0 (.int .u8 0) 1 1 Try.underlying25 hi hz0 hz1 hz2 rfl (by decide) _ 0 [] rfl ⟨rfl, .inl ⟨rfl, rfl⟩⟩ A n c ((List.range n).map fun j => .int .u8 (f j)) rfl HA.out (by simp) HH.out.cellsAt (by simp [Value.oneCell']) (by unfold maxLen; omega) (by omega) (Nat.le_refl _) ?_; intro v' w3 hown hgr)
  go_ret
  exact ⟨v', rfl, by simpa using hown, (Below.refl _ _).grown hgr (Nat.le_refl _) fun k e => by cases e⟩
set_option maxRecDepth 100000 in
set_option maxHeartbeats 4000000 in
theorem rows7 (f : Nat → Int) (A : Option Addr) (n c : Nat) (f2 : Nat → Int) (A2 : Option Addr) (n2 c2 : Nat) (W : World) (hnc : n ≤ c) (hnc2 : n2 ≤ c2) (hnm : n ≤ 140737488355328) (hnm2 : n2 ≤ 140737488355328) (hA : A = none → n = 0 ∧ c = 0) (hA2 : A2 = none → n2 = 0 ∧ c2 = 0)
    (ha : Arr W W.heap.size A n fun j => .int .u8 (f j)) (ha2 : Arr W W.heap.size A2 n2 fun j => .int .u8 (f2 j)) (hf : ∀ i, i < n → 0 ≤ f i ∧ f i < 256) (hf2 : ∀ i, i < n2 → 0 ≤ f2 i ∧ f2 i < 256) :
    Calls Try.prog 7 #[.slice A n c, .slice A2 n2 c2] W fun e W' => e = .returned (.bool true) ∧ Below W.heap.size W W' := by
  obtain ⟨i0, hi, hz0, hz1, hz2⟩ := infoParts info5
  obtain ⟨i1, ji, jz0, jz1, jz2⟩ := infoParts info35
  have H1 := Lib.hid ha
  have H2 := Lib.hid ha2
  have HF := Lib.hid hf
  have HF2 := Lib.hid hf2
  have HN := Lib.hid hA
  have HN2 := Lib.hid hA2
  clear ha ha2 hf hf2 hA hA2
  go_enter Try.func7, Try.ntmps7
  go_wp2_with fail
  refine (awake8 W).mono ?_
  rintro e w1 ⟨rfl, hb⟩
  have B1 := Lib.hid hb
  clear hb
  by_cases e1 : 6000 < n
  · have t1 : decide ((6000 : Int) < n) = true := by simp; omega
    clear e1
    go_wp2_with fail
    go_ret
    exact ⟨rfl, B1.out⟩
  have t1 : decide ((6000 : Int) < n) = false := by simp; omega
  by_cases e2 : 6000 < n2
  · have t2 : decide ((6000 : Int) < n2) = true := by simp; omega
    clear e1 e2
    go_wp2_with fail
    go_ret
    exact ⟨rfl, B1.out⟩
  have t2 : decide ((6000 : Int) < n2) = false := by simp; omega
  go_wp2_with fail
  refine (parse18 f A n c w1 (by omega) hnc ((H1.out.below B1.out (Nat.le_refl _)).more B1.out.size) HF.out).mono ?_
  rintro e w2 ⟨K, v, hK, rfl, r2, hb2⟩
  have R2 := Lib.hid r2
  have HB2 := Lib.hid hb2
  have B2 := Lib.hid (B1.out.trans (hb2.mono B1.out.size))
  have HK := Lib.hid hK
  have hKn := hK.end_.2
  clear r2 hb2 hK
  go_wp2_with fail
  refine (parse18 f2 A2 n2 c2 w2 (by omega) hnc2 ((H2.out.below B2.out (Nat.le_refl _)).more B2.out.size) HF2.out).mono ?_
  rintro e w3 ⟨L, v2, hL, rfl, r3, hb3⟩
  have R23 := Lib.hid ((Keeps.fresh (S := fun _ => False) hb3).row R2.out (fun _ _ h => h))
  have B3 := Lib.hid (B2.out.trans (hb3.mono B2.out.size))
  have HL := Lib.hid hL
  have hLn := hL.end_.2
  obtain ⟨A3, c3, rfl, ha3, -, -, hn3⟩ := srow_arr (wide_pcs _) r3
  have HA3 := Lib.hid ha3
  have HN3 := Lib.hid hn3
  have HO := Lib.hid (cells_one3 (pcF f2 n2) L)
  have HLN := Lib.hid (flatS_len (wide_pcs (pcF f2 n2)) L)
  clear r3 hb3 hL ha3 hn3
  have RR := Lib.hid (row_more R23.out B1.out.size)
  clear R23
  go_wp2_with (at_builtin; refine wpList_append_any rfl _ _ 22 rfl W.heap.size 35 i1 (.agg #[.int .u8 0, .int .i64 0, .int .i64 0]) 3 24 Try.underlying22 ji jz0 jz1 jz2 rfl (by decide) _ K _ rfl RR.out A3 L c3 (flatS (pcsF (pcF f2 n2)) L) rfl HN3.out HLN.out (HA3.out.cellsAt (wide_pcs _)) HO.out (by unfold maxLen; omega) (by omega) B3.out.size ?_; intro v4 w4 hown hgr)
  have B4 := Lib.hid (B3.out.grown hgr B3.out.size (fun k e => (RR.out.lt k e).1))
  have eP : flatS (pcsF (pcF f n)) K ++ flatS (pcsF (pcF f2 n2)) L = flatS (pcsF fun i => if i < K then pcF f n i else pcF f2 n2 (i - K)) (K + L) := by
    rw [flatS_append]
    refine flatS_congr fun j _ => ?_
    show (if j < K then (pcF f n j).cells else (pcF f2 n2 (j - K)).cells) = (if j < K then pcF f n j else pcF f2 n2 (j - K)).cells
    split <;> rfl
  rw [eP] at hown
  obtain ⟨A4, c4, rfl, ha4, -⟩ := srow_arr (wide_pcs _) hown
  have HA4 := Lib.hid ha4
  have HE : Hid (expP (fun i => if i < K then pcF f n i else pcF f2 n2 (i - K)) (K + L) = some (bytesL f n ++ bytesL f2 n2)) := Lib.hid (exp_two (by omega) HK.out HL.out (fun i hi => if_pos hi) (fun i _ => by rw [if_neg (by omega), Nat.add_sub_cancel_left]))
  clear hown hgr ha4 eP RR HA3 HN3 HO HLN
  go_wp2_with fail
  refine (expand10 _ A4 (K + L) c4 w4 (by omega) HA4.out).mono ?_
  rintro e w5 (⟨h1, -⟩ | ⟨out, v, h1, rfl, h2, h3⟩)
  · rw [HE.out] at h1; cases h1
  rw [HE.out] at h1
  injection h1 with h1
  subst h1
  obtain ⟨A5, c5, rfl⟩ := row_slice h2
  have hl : (bytesL f n ++ bytesL f2 n2).length = n + n2 := by rw [List.length_append, bytesL_len, bytesL_len]
  rw [hl] at h2 ⊢
  have HA5 := Lib.hid (row_bytes h2 hl)
  have B5 := Lib.hid (B4.out.trans (h3.mono B4.out.size))
  clear h2 h3 hl
  go_wp2_with fail
  refine (copy24 f A n c w5 (by omega) HN.out ((H1.out.below B5.out (Nat.le_refl _)).more B5.out.size)).mono ?_
  rintro e w6 ⟨v6, rfl, r6, hb6⟩
  have R6 := Lib.hid (row_more r6 B5.out.size)
  have R65 := Lib.hid r6
  have HA6 := Lib.hid (HA5.out.below hb6 (Nat.le_refl _))
  have HZ6 := Lib.hid hb6.size
  have B6 := Lib.hid (B5.out.trans (hb6.mono B5.out.size))
  have H2' := Lib.hid (H2.out.below B6.out (Nat.le_refl _))
  have hl2 : Hid (((List.range n2).map fun j => Value.int .u8 (f2 j)).length = n2 * 1) := Lib.hid (by simp)
  clear r6 hb6
  go_wp2_with (at_builtin; refine wpList_append_any rfl _ _ 25 rfl W.heap.size 5 i0 (.int .u8 0) 1 1 Try.underlying25 hi hz0 hz1 hz2 rfl (by decide) _ n _ rfl R6.out A2 n2 c2 ((List.range n2).map fun j => .int .u8 (f2 j)) rfl HN2.out hl2.out H2'.out.cellsAt (by simp [Value.oneCell']) (by unfold maxLen; omega) (by omega) B6.out.size ?_; intro v7 w7 hown hgr)
  have B7 := Lib.hid (B6.out.grown hgr B6.out.size (fun k e => (R6.out.lt k e).1))
  have er : ((List.range n).map fun j => Value.int .u8 (f j)) ++ ((List.range n2).map fun j => Value.int .u8 (f2 j)) = bv (bytesL f n ++ bytesL f2 n2) := by
    rw [bv_app]
    simp [bv, bytesL]
    rfl
  rw [er] at hown
  obtain ⟨A7, c7, rfl⟩ := row_slice hown
  have HA7 := Lib.hid (row_bytes hown (by rw [List.length_append, bytesL_len, bytesL_len]))
  have HA57 : Hid (Arr w7 w7.heap.size A5 (n + n2) fun j => .int .u8 ((bytesL f n ++ bytesL f2 n2).getD j 0)) := Lib.hid (by
    have hk := Keeps.grown (S := fun k => v6.ownBlock = some k) hgr fun k e => e
    exact (hk.arr HA6.out fun k hlt e => by have := (R65.out.lt k e).1; omega).more (Nat.le_trans HZ6.out hk.size))
  clear hown hgr er
  go_wp2_with fail
  refine (same12 _ A5 A7 (n + n2) c5 c7 _ _ w7 (by omega) HA57.out HA7.out).mono ?_
  rintro e w8 ⟨rfl, q, rfl⟩
  go_wp2_with fail
  go_ret
  exact ⟨rfl, below_drewN B7.out q⟩
end Go.Proofs.Ytbaibkckigdndaa
