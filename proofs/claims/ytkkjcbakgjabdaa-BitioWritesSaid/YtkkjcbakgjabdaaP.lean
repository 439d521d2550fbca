/- The law BitioReads of layer 3 (bitio): it returns true at every input. -/
import Derived.Test.YtkkjcbakgjabdaaM
import Derived.Test.YtkkjcbakgjabdaaKb
namespace Go.Proofs.Ytkkjcbakgjabdaa
open Go.RowKit
theorem quiet_add {P : Program} {f : FuncId} {args : Array Value} {w : World} {a n : Nat} {v : Value}
    (h : Calls P f args (w.drewN (a + n)) fun e w' => e = .returned v ∧ ∃ m, w' = (w.drewN (a + n)).drewN m) :
    Calls P f args (w.drewN (a + n)) fun e w'' => e = .returned v ∧ ∃ m, w'' = w.drewN (a + m) :=
  h.mono fun _ _ ⟨he, m, hm⟩ => ⟨he, n + m, by rw [hm, World.drewN_drewN, Nat.add_assoc]⟩
theorem quiet_one {P : Program} {f : FuncId} {args : Array Value} {w : World} {n : Nat} {v : Value}
    (h : Calls P f args (w.drewN n) fun e w' => e = .returned v ∧ ∃ m, w' = (w.drewN n).drewN m) :
    Calls P f args (w.drewN n) fun e w'' => e = .returned v ∧ ∃ m, w'' = w.drewN m :=
  h.mono fun _ _ ⟨he, m, hm⟩ => ⟨he, n + m, by rw [hm, World.drewN_drewN]⟩
/-- Both readers, apart, in a call's own memory. -/
structure Rq (W w : World) (q : Nat) (u : Value) (B n o p : Nat) (A : Option Addr) (c : Nat) : Prop where
  rd : Rd w W.heap.size q u B n o
  rf : Rf w W.heap.size p A c B n o
  below : Below W.heap.size W w
theorem Rq.drewN {W w : World} {q : Nat} {u : Value} {B n o p : Nat} {A : Option Addr} {c : Nat} (h : Rq W w q u B n o p A c) (m : Nat) : Rq W (w.drewN m) q u B n o p A c :=
  ⟨h.rd.drewN m, h.rf.drewN m, below_drewN h.below m⟩
theorem blk_blk_ne {w : World} {p q : Nat} {c1 c2 : Array Value} {t1 t2 : TypeId} (h1 : w.heap[p]? = some (.cells c1 t1 (0, 0))) (h2 : w.heap[q]? = some (.cells c2 t2 (0, 0))) (ht : t1 ≠ t2) : p ≠ q := by
  rintro rfl
  rw [h1] at h2
  injection h2 with h2
  injection h2 with _ e
  exact ht e
/-- The one reader has turned. -/
theorem Rd.rfKeeps {w w' : World} {base q p : Nat} {u : Value} {B B' n n' o o' c : Nat} {A : Option Addr} (hr : Rd w base q u B n o) (hf : Rf w base p A c B' n' o') (hk : Keeps (fun k => k = q) w w') : Rf w' base p A c B' n' o' :=
  hf.keeps hk (fun e => blk_blk_ne hf.blk hr.blk (by decide) e) fun i hi e => by have := hr.low; omega
theorem Rf.rdKeeps {w w' : World} {base q p : Nat} {u : Value} {B B' n n' o o' c : Nat} {A : Option Addr} (hr : Rd w base q u B n o) (hf : Rf w base p A c B' n' o') (hk : Keeps (fun k => k = p) w w') : Rd w' base q u B n o :=
  hr.keeps hk fun i hi e => by
    rcases hi with h | h
    · exact blk_blk_ne hf.blk hr.blk (by decide) (by rw [← e, h])
    · exact row_blk_ne hr.row hf.blk (by decide) (by rw [h, e])
theorem Rq.alignR {W w w' : World} {q : Nat} {u : Value} {B n o o' p : Nat} {A : Option Addr} {c : Nat} (h : Rq W w q u B n o p A c) (hr : Rd w' W.heap.size q u B n o') (hk : Keeps (fun k => k = q) w w') :
    Rd w' W.heap.size q u B n o' ∧ Rf w' W.heap.size p A c B n o ∧ Below W.heap.size W w' :=
  ⟨hr, h.rd.rfKeeps h.rf hk, h.below.trans (hk.below (fun k e => by rw [e]; exact h.rd.low) h.below.size)⟩
/-- Both readers, at different places. -/
structure Rz (W w : World) (q : Nat) (u : Value) (B n o o' p : Nat) (A : Option Addr) (c : Nat) : Prop where
  rd : Rd w W.heap.size q u B n o'
  rf : Rf w W.heap.size p A c B n o
  below : Below W.heap.size W w
theorem Rq.stepR {W w w' : World} {q : Nat} {u : Value} {B n o o' p : Nat} {A : Option Addr} {c : Nat} (h : Rq W w q u B n o p A c) (hr : Rd w' W.heap.size q u B n o') (hk : Keeps (fun k => k = q) w w') : Rz W w' q u B n o o' p A c :=
  ⟨hr, h.rd.rfKeeps h.rf hk, h.below.trans (hk.below (fun k e => by rw [e]; exact h.rd.low) h.below.size)⟩
theorem Rz.stepF {W w w' : World} {q : Nat} {u : Value} {B n o o' p : Nat} {A : Option Addr} {c : Nat} (h : Rz W w q u B n o o' p A c) (hf : Rf w' W.heap.size p A c B n o') (hk : Keeps (fun k => k = p) w w') : Rq W w' q u B n o' p A c :=
  ⟨Rf.rdKeeps h.rd h.rf hk, hf, h.below.trans (hk.below (fun k e => by rw [e]; exact h.rf.low) h.below.size)⟩
set_option maxRecDepth 100000 in
set_option maxHeartbeats 4000000 in
theorem reads5 (f : Nat → Int) (g : Pc) (A A1 : Option Addr) (n c n1 c1 : Nat) (W : World) (hn : n ≤ 140737488351232) (hn1 : n1 ≤ 9223372036854775807) (wf : ∀ j, j < n → 0 ≤ f j ∧ f j < 256)
    (ha : Arr W W.heap.size A n fun k => .int .u8 (f k)) (hA : A = none → n = 0 ∧ c = 0) (hp : Pcs W W.heap.size A1 n1 g) (hok : g.Ok n1) :
    Calls Try.prog 5 #[.slice A n c, .slice A1 n1 c1] W fun e W' => e = .returned (.bool true) ∧ Below W.heap.size W W' := by
  have HA := Lib.hid ha
  have HN := Lib.hid hA
  have HP := Lib.hid hp
  have HK := Lib.hid hok
  obtain ⟨B, _, hf⟩ := bytes_num f n wf
  have HF := Lib.hid hf
  clear ha hA hp hok wf hf
  by_cases h5 : 5000 < n
  · have t1 : decide ((5000 : Int) < n) = true := by simp; omega
    go_enter Try.func5, Try.ntmps5
    go_wp2_with fail
    refine (awake9 W).mono ?_
    rintro e w1 ⟨rfl, hb1⟩
    have B1 := Lib.hid hb1
    clear hb1
    go_wp2_with fail
    go_ret
    exact ⟨rfl, B1.out⟩
  · have t1 : decide ((5000 : Int) < n) = false := by simp; omega
    go_enter Try.func5, Try.ntmps5
    go_wp2_with fail
    refine (lentB f A n c W (by omega) HA.out HN.out).mono ?_
    rintro e w1 ⟨d, rfl, hd, hl, hb1⟩
    have L1 := Lib.hid hl
    have B1 := Lib.hid hb1
    clear hl hb1
    go_wp2_with fail
    refine (newr11 w1 B _ n (n + 12) (by omega) ((lent_arr L1.out).congr fun j hj => by rw [HF.out j hj]) (fun h => by cases h)).mono ?_
    rintro e w2 ⟨q, u, rfl, hq, hb2, hr2⟩
    have hdz := heap_lt L1.out
    have B2 := Lib.hid (B1.out.trans (hb2.mono B1.out.size))
    have L2 := Lib.hid ((hb2.block d hdz).trans L1.out)
    have R2 := Lib.hid (hr2.more B1.out.size)
    have RX2 : Hid (∀ i, foot q u i → d < i) := Lib.hid fun i hi => Nat.lt_of_lt_of_le hdz (hr2.foot_lt hi).1
    clear hb2 hr2 hq
    go_wp2_with fail
    obtain ⟨w3, hw3⟩ : ∃ w3, w3 = w2.alloc (.cells #[.slice A n c, .int .i64 0] 52) := ⟨_, rfl⟩
    obtain ⟨p, hpp⟩ : ∃ p, p = w2.heap.size := ⟨_, rfl⟩
    rw [← hw3, ← hpp]
    have B3 : Hid (Below W.heap.size W w3) := Lib.hid (by rw [hw3]; exact B2.out.alloc B2.out.size _)
    have l3 := heap_old (o' := .cells #[.slice A n c, .int .i64 0] 52) L2.out
    rw [← hw3] at l3
    have L3 := Lib.hid l3
    have Q3 : Hid (Rq W w3 q u B n 0 p A c) := Lib.hid (by
      refine ⟨by rw [hw3]; exact R2.out.keeps (Keeps.alloc (fun _ => False) w2 _) fun _ _ h => h, ⟨by rw [hw3, hpp]; exact heap_new w2 _, by rw [hpp]; exact B2.out.size, ?_, Nat.zero_le _, by omega⟩, B3.out⟩
      exact (HA.out.below B3.out (Nat.le_refl _)).congr fun j hj => by rw [HF.out j hj])
    have RX3 : Hid (d ≠ p) := Lib.hid (by rw [hpp]; exact Nat.ne_of_lt (heap_lt L2.out))
    clear l3 hw3 hpp L1 B1 B2 L2 R2
    refine (keptB f A d n c W.heap.size w3 (by omega) (HA.out.below B3.out (Nat.le_refl _)) L3.out).mono ?_
    rintro e _ ⟨rfl, m3, rfl⟩
    go_wp2_with fail
    refine (overB d n _ (w3.drewN m3) (by omega) L3.out (by simp [markRowB])).mono ?_
    rintro e w4 ⟨rfl, hk4⟩
    have Q4 : Hid (Rq W w4 q u B n 0 p A c) := Lib.hid ⟨(Q3.out.drewN m3).rd.keeps hk4 fun i hi e => Nat.lt_irrefl d (by have := RX2.out i hi; rw [e] at this; exact this), (Q3.out.drewN m3).rf.keeps hk4 (fun e => RX3.out e.symm) fun i hi e => by omega, (below_drewN B3.out m3).trans (hk4.below (fun k e => by rw [e]; exact hd) B3.out.size)⟩
    clear hk4 Q3 B3 L3 RX2 RX3 hdz hd
    go_wp2_with fail
    go_loopw [8] (fun i wr => ∃ k o : Nat, k ≤ n1 ∧ i = .int .i64 k ∧ Rq W wr q u B n o p A c) (fun i _ => n1 - (intOf i).toNat)
    case atStart => exact ⟨0, 0, Nat.zero_le _, rfl, Q4.out⟩
    case round =>
      clear Q4
      obtain ⟨k, o, hk, rfl, hw⟩ := hrel
      have H0 := Lib.hid hw
      clear hw
      by_cases hlt : k < n1 ∧ k < 300
      · obtain ⟨hlt, h300⟩ := hlt
        obtain ⟨b, off, rfl, hbl, hc⟩ := HP.out (by omega)
        have HL := Lib.hid hbl
        obtain ⟨x1, x2, x3⟩ := hc k hlt
        clear hc hbl x1
        have c3 := (H0.out.below.cell (p := ⟨b, off + k * 3 + 2, none⟩) HL.out).trans x3
        obtain ⟨hV, hN1, hN2⟩ := HK.out k hlt
        clear x3 hV
        have i1 : (0 : Int) ≤ (k : Int) := by omega
        have i2 : (k : Int) < n1 := by omega
        cases hal : g.al k
        · rw [hal] at c3
          have H1 := Lib.hid H0.out
          clear hal
          have c2 := (H1.out.below.cell (p := ⟨b, off + k * 3 + 1, none⟩) HL.out).trans x2
          by_cases hin : 0 ≤ g.N k ∧ g.N k ≤ 32 ∧ g.N k ≤ 8 * (n : Int) - o
          · obtain ⟨s, hs⟩ : ∃ s : Nat, g.N k = s := ⟨(g.N k).toNat, by omega⟩
            have hs1 : s ≤ 32 := by omega
            have hs2 : o + s ≤ 8 * n := by have := H1.out.rd.at_le; omega
            rw [hs] at c2
            have HX2 : Hid (W.cell? ⟨b, off + k * 3 + 1, none⟩ = some (.int .i64 (s : Nat))) := Lib.hid (by rw [← hs]; exact x2)
            clear hin hs x2 hN1 hN2
            go_wp2_with fail
            refine (get14 _ _ q u _ _ o s H1.out.rd hs1 hs2).mono ?_
            rintro e w3 ⟨rfl, hr3, hk3⟩
            have H3 := Lib.hid (H1.out.stepR hr3 hk3)
            obtain ⟨y, hy⟩ : ∃ y, y = B / 2 ^ o % 2 ^ s := ⟨_, rfl⟩
            rw [← hy]
            have HY := Lib.hid hy
            clear hr3 hk3 c2 hy
            have c2 := (H3.out.below.cell (p := ⟨b, off + k * 3 + 1, none⟩) HL.out).trans HX2.out
            go_wp2_with fail
            refine (rget30 _ _ p A c _ _ o s H3.out.rf hs1 hs2).mono ?_
            rintro e w4 ⟨rfl, hr4, hk4⟩
            have H4 := Lib.hid (H3.out.stepF hr4 hk4)
            clear hr4 hk4 c2
            obtain ⟨z, hz⟩ : ∃ z, z = o + s := ⟨_, rfl⟩
            rw [← hz] at H4
            rw [← HY.out]
            clear hz hs2
            obtain ⟨d0, d1, g0⟩ := two_at H4.out.rf.blk
            go_wp2_with fail
            refine wp_region_quiet_lit (by kernel_rfl) (by kernel_rfl) ?_
            repeat (any_goals (first | go_big_quiet_step ((first | (go_at_call 31; exact quiet_left (at31 _ _ q u _ _ z (H4.out.rd.drewN _))) | (go_at_call 12; exact quiet_one (left12 _ _ q u _ _ z (H4.out.rd.drewN _))) | (go_at_call 32; exact quiet_one (rleft32 _ _ p A c _ _ z (H4.out.rf.drewN _))))) | quiet_step ((first | (go_at_call 31; exact quiet_left (at31 _ _ q u _ _ z (H4.out.rd.drewN _))) | (go_at_call 12; exact quiet_one (left12 _ _ q u _ _ z (H4.out.rd.drewN _))) | (go_at_call 32; exact quiet_one (rleft32 _ _ p A c _ _ z (H4.out.rf.drewN _))))) | (refine wpQuiet_step (fun K hK => ?_); go_simp; split <;> (first | (exfalso; omega) | (refine hK _ ?_; clear hK K)))))
            all_goals (refine wpQuiet_nil ?_; intro _ hw'; obtain ⟨nq, hw''⟩ := hw'; subst hw'')
            all_goals go_wp2_with fail
            all_goals go_roundw
            case rel => exact ⟨k + 1, z, by omega, by go_num, H4.out.drewN _⟩
            case measure => simp [intOf]; omega
          · have hno : g.N k < 0 ∨ 32 < g.N k ∨ 8 * (n : Int) - o < g.N k := by omega
            have HX2 := Lib.hid x2
            have HNO := Lib.hid hno
            clear hin x2 hno
            go_wp2_with fail
            refine (getno14 _ _ q u _ _ o (g.N k) H1.out.rd HNO.out).mono ?_
            rintro e _ ⟨rfl, m3, rfl⟩
            have H3 := Lib.hid (H1.out.drewN m3)
            clear c2
            have c2 := (H3.out.below.cell (p := ⟨b, off + k * 3 + 1, none⟩) HL.out).trans HX2.out
            go_wp2_with fail
            refine (rgetno30 _ _ p A c _ _ o (g.N k) H3.out.rf HNO.out).mono ?_
            rintro e _ ⟨rfl, m4, rfl⟩
            have h4 := H3.out.drewN m4
            clear c2 H3
            generalize World.drewN (World.drewN _ m3) m4 = w4 at h4 ⊢
            have H4 := Lib.hid h4
            clear h4
            obtain ⟨d0, d1, g0⟩ := two_at H4.out.rf.blk
            go_wp2_with fail
            refine wp_region_quiet_lit (by kernel_rfl) (by kernel_rfl) ?_
            repeat (any_goals (first | go_big_quiet_step ((first | (go_at_call 31; exact quiet_left (at31 _ _ q u _ _ o (H4.out.rd.drewN _))) | (go_at_call 12; exact quiet_one (left12 _ _ q u _ _ o (H4.out.rd.drewN _))) | (go_at_call 32; exact quiet_one (rleft32 _ _ p A c _ _ o (H4.out.rf.drewN _))))) | quiet_step ((first | (go_at_call 31; exact quiet_left (at31 _ _ q u _ _ o (H4.out.rd.drewN _))) | (go_at_call 12; exact quiet_one (left12 _ _ q u _ _ o (H4.out.rd.drewN _))) | (go_at_call 32; exact quiet_one (rleft32 _ _ p A c _ _ o (H4.out.rf.drewN _))))) | (refine wpQuiet_step (fun K hK => ?_); go_simp; split <;> (first | (exfalso; omega) | (refine hK _ ?_; clear hK K)))))
            all_goals (refine wpQuiet_nil ?_; intro _ hw'; obtain ⟨nq, hw''⟩ := hw'; subst hw'')
            all_goals go_wp2_with fail
            all_goals go_roundw
            case rel => exact ⟨k + 1, o, by omega, by go_num, H4.out.drewN _⟩
            case measure => simp [intOf]; omega
        · rw [hal] at c3
          clear hal
          have X2 := Lib.hid x2
          clear x2
          go_wp2_with fail
          refine (alignr28 _ _ q u _ _ _ H0.out.rd).mono ?_
          rintro e w5 ⟨rfl, hr5, hk5⟩
          have H5 := Lib.hid (H0.out.stepR hr5 hk5)
          clear hr5 hk5 c3
          go_wp2_with fail
          refine (ralignr29 _ _ p A c _ _ _ H5.out.rf).mono ?_
          rintro e w6 ⟨rfl, hr6, hk6⟩
          obtain ⟨oa, hoa⟩ : ∃ oa, oa = 8 * ((o + 7) / 8) := ⟨_, rfl⟩
          have H1 := Lib.hid (H5.out.stepF hr6 hk6)
          rw [← hoa] at H1
          clear hr6 hk6 hoa H5
          have x2 := X2.out
          have c2 := (H1.out.below.cell (p := ⟨b, off + k * 3 + 1, none⟩) HL.out).trans x2
          by_cases hin : 0 ≤ g.N k ∧ g.N k ≤ 32 ∧ g.N k ≤ 8 * (n : Int) - oa
          · obtain ⟨s, hs⟩ : ∃ s : Nat, g.N k = s := ⟨(g.N k).toNat, by omega⟩
            have hs1 : s ≤ 32 := by omega
            have hs2 : oa + s ≤ 8 * n := by have := H1.out.rd.at_le; omega
            rw [hs] at c2
            have HX2 : Hid (W.cell? ⟨b, off + k * 3 + 1, none⟩ = some (.int .i64 (s : Nat))) := Lib.hid (by rw [← hs]; exact x2)
            clear hin hs x2 hN1 hN2
            go_wp2_with fail
            refine (get14 _ _ q u _ _ oa s H1.out.rd hs1 hs2).mono ?_
            rintro e w3 ⟨rfl, hr3, hk3⟩
            have H3 := Lib.hid (H1.out.stepR hr3 hk3)
            obtain ⟨y, hy⟩ : ∃ y, y = B / 2 ^ oa % 2 ^ s := ⟨_, rfl⟩
            rw [← hy]
            have HY := Lib.hid hy
            clear hr3 hk3 c2 hy
            have c2 := (H3.out.below.cell (p := ⟨b, off + k * 3 + 1, none⟩) HL.out).trans HX2.out
            go_wp2_with fail
            refine (rget30 _ _ p A c _ _ oa s H3.out.rf hs1 hs2).mono ?_
            rintro e w4 ⟨rfl, hr4, hk4⟩
            have H4 := Lib.hid (H3.out.stepF hr4 hk4)
            clear hr4 hk4 c2
            obtain ⟨z, hz⟩ : ∃ z, z = oa + s := ⟨_, rfl⟩
            rw [← hz] at H4
            rw [← HY.out]
            clear hz hs2
            obtain ⟨d0, d1, g0⟩ := two_at H4.out.rf.blk
            go_wp2_with fail
            refine wp_region_quiet_lit (by kernel_rfl) (by kernel_rfl) ?_
            repeat (any_goals (first | go_big_quiet_step ((first | (go_at_call 31; exact quiet_left (at31 _ _ q u _ _ z (H4.out.rd.drewN _))) | (go_at_call 12; exact quiet_one (left12 _ _ q u _ _ z (H4.out.rd.drewN _))) | (go_at_call 32; exact quiet_one (rleft32 _ _ p A c _ _ z (H4.out.rf.drewN _))))) | quiet_step ((first | (go_at_call 31; exact quiet_left (at31 _ _ q u _ _ z (H4.out.rd.drewN _))) | (go_at_call 12; exact quiet_one (left12 _ _ q u _ _ z (H4.out.rd.drewN _))) | (go_at_call 32; exact quiet_one (rleft32 _ _ p A c _ _ z (H4.out.rf.drewN _))))) | (refine wpQuiet_step (fun K hK => ?_); go_simp; split <;> (first | (exfalso; omega) | (refine hK _ ?_; clear hK K)))))
            all_goals (refine wpQuiet_nil ?_; intro _ hw'; obtain ⟨nq, hw''⟩ := hw'; subst hw'')
            all_goals go_wp2_with fail
            all_goals go_roundw
            case rel => exact ⟨k + 1, z, by omega, by go_num, H4.out.drewN _⟩
            case measure => simp [intOf]; omega
          · have hno : g.N k < 0 ∨ 32 < g.N k ∨ 8 * (n : Int) - oa < g.N k := by omega
            have HX2 := Lib.hid x2
            have HNO := Lib.hid hno
            clear hin x2 hno
            go_wp2_with fail
            refine (getno14 _ _ q u _ _ oa (g.N k) H1.out.rd HNO.out).mono ?_
            rintro e _ ⟨rfl, m3, rfl⟩
            have H3 := Lib.hid (H1.out.drewN m3)
            clear c2
            have c2 := (H3.out.below.cell (p := ⟨b, off + k * 3 + 1, none⟩) HL.out).trans HX2.out
            go_wp2_with fail
            refine (rgetno30 _ _ p A c _ _ oa (g.N k) H3.out.rf HNO.out).mono ?_
            rintro e _ ⟨rfl, m4, rfl⟩
            have h4 := H3.out.drewN m4
            clear c2 H3
            generalize World.drewN (World.drewN _ m3) m4 = w4 at h4 ⊢
            have H4 := Lib.hid h4
            clear h4
            obtain ⟨d0, d1, g0⟩ := two_at H4.out.rf.blk
            go_wp2_with fail
            refine wp_region_quiet_lit (by kernel_rfl) (by kernel_rfl) ?_
            repeat (any_goals (first | go_big_quiet_step ((first | (go_at_call 31; exact quiet_left (at31 _ _ q u _ _ oa (H4.out.rd.drewN _))) | (go_at_call 12; exact quiet_one (left12 _ _ q u _ _ oa (H4.out.rd.drewN _))) | (go_at_call 32; exact quiet_one (rleft32 _ _ p A c _ _ oa (H4.out.rf.drewN _))))) | quiet_step ((first | (go_at_call 31; exact quiet_left (at31 _ _ q u _ _ oa (H4.out.rd.drewN _))) | (go_at_call 12; exact quiet_one (left12 _ _ q u _ _ oa (H4.out.rd.drewN _))) | (go_at_call 32; exact quiet_one (rleft32 _ _ p A c _ _ oa (H4.out.rf.drewN _))))) | (refine wpQuiet_step (fun K hK => ?_); go_simp; split <;> (first | (exfalso; omega) | (refine hK _ ?_; clear hK K)))))
            all_goals (refine wpQuiet_nil ?_; intro _ hw'; obtain ⟨nq, hw''⟩ := hw'; subst hw'')
            all_goals go_wp2_with fail
            all_goals go_roundw
            case rel => exact ⟨k + 1, oa, by omega, by go_num, H4.out.drewN _⟩
            case measure => simp [intOf]; omega
      · have t5 : decide (k < n1) = false ∨ decide ((k : Int) < 300) = false := by
          rcases Nat.lt_or_ge k n1 with h | h
          · right; simp; omega
          · left; simp; omega
        have T5 := Lib.hid t5
        clear t5 hlt
        by_cases hlt : k < n1
        · have t6 : decide ((k : Int) < 300) = false := by
            rcases T5.out with h | h
            · simp at h; omega
            · exact h
          go_wp2_with fail
          refine (awake9 _).mono ?_
          rintro e w7 ⟨rfl, hb7⟩
          have B7 := Lib.hid (H0.out.below.trans (hb7.mono H0.out.below.size))
          clear hb7
          go_wp2_with fail
          go_ret
          exact ⟨rfl, B7.out⟩
        · go_wp2_with fail
          refine (awake9 _).mono ?_
          rintro e w7 ⟨rfl, hb7⟩
          have B7 := Lib.hid (H0.out.below.trans (hb7.mono H0.out.below.size))
          clear hb7
          go_wp2_with fail
          go_ret
          exact ⟨rfl, B7.out⟩
end Go.Proofs.Ytkkjcbakgjabdaa
