/- The law BitioBack of layer 3 (bitio): it returns true at every input. -/
import Derived.Test.YtkkjcbakgjabdaaH
namespace Go.Proofs.Ytkkjcbakgjabdaa
open Go.RowKit
theorem info3 : (Try.prog.info? 3).map (fun i => (i.zero, i.size, i.bytes)) = some (some (.int .i64 0), 1, 8) := by kernel_rfl
theorem Wr.drewN {w : World} {base p : Nat} {v : Value} {N L : Nat} (h : Wr w base p v N L) (m : Nat) : Wr (w.drewN m) base p v N L := h.keeps (Keeps.drewN (fun _ => False) w m) fun _ _ h => h
theorem Rd.drewN {w : World} {base p : Nat} {v : Value} {B n o : Nat} (h : Rd w base p v B n o) (m : Nat) : Rd (w.drewN m) base p v B n o := h.keeps (Keeps.drewN (fun _ => False) w m) fun _ _ h => h
/-- The writer's Align, Put in a call's own memory, a row of another kind beside it. -/
structure Wp (W w : World) (p : Nat) (v : Value) (N L : Nat) (pv : Value) (k : Nat) (f : Nat → Int) : Prop where
  wr : Wr w W.heap.size p v N L
  row : w.ownsRow W.heap.size 3 1 pv k ((List.range k).map fun i => .int .i64 (f i))
  below : Below W.heap.size W w
theorem Wp.drewN {W w : World} {p : Nat} {v : Value} {N L : Nat} {pv : Value} {k : Nat} {f : Nat → Int} (h : Wp W w p v N L pv k f) (m : Nat) : Wp W (w.drewN m) p v N L pv k f :=
  ⟨h.wr.drewN m, (Keeps.drewN (fun _ => False) w m).row h.row fun _ _ h => h, below_drewN h.below m⟩
theorem Wp.step {W w w' : World} {p : Nat} {v v' : Value} {N L N' L' : Nat} {pv : Value} {k : Nat} {f : Nat → Int} (h : Wp W w p v N L pv k f) (hw : Wr w' W.heap.size p v' N' L') (hk : Keeps (foot p v) w w') : Wp W w' p v' N' L' pv k f := by
  refine ⟨hw, hk.row h.row fun i hi hf => ?_, h.below.trans (hk.below (fun _ hi => (h.wr.foot_lt hi).1) h.below.size)⟩
  rcases hf with rfl | hf
  · exact row_blk_ne h.row h.wr.blk (by decide) hi
  · exact row_row_ne h.wr.row h.row (by decide) i hf hi
theorem Wp.align {W w : World} {p : Nat} {v : Value} {N L : Nat} {pv : Value} {k : Nat} {f : Nat → Int} (h : Wp W w p v N L pv k f) (hL : L ≤ 1099511627776) :
    Calls Try.prog 19 #[.pointer (some ⟨p, 0, none⟩)] w fun e w' => e = .returned undef ∧ ∃ v', Wp W w' p v' N (up8 L) pv k f :=
  (align19 w _ p v N L h.wr hL h.below.size).mono fun _ _ ⟨he, v', hw, hk, _⟩ => ⟨he, v', h.step hw hk⟩
theorem Wp.put {W w : World} {p : Nat} {v : Value} {N L : Nat} {pv : Value} {k : Nat} {f : Nat → Int} (h : Wp W w p v N L pv k f) (V n : Nat) (hn : n ≤ 32) (hV : V < 4294967296) (hL : L ≤ 1099511627776) :
    Calls Try.prog 15 #[.pointer (some ⟨p, 0, none⟩), .int .u32 V, .int .i64 n] w fun e w' => e = .returned (.bool true) ∧ ∃ v', Wp W w' p v' (N + V % 2 ^ n * 2 ^ L) (L + n) pv k f :=
  (put15 w _ p v N L V n h.wr hn hV hL h.below.size).mono fun _ _ ⟨he, v', hw, hk, _⟩ => ⟨he, v', h.step hw hk⟩
theorem Wp.drew {W w : World} {p : Nat} {v : Value} {N L : Nat} {pv : Value} {k : Nat} {f : Nat → Int} (h : Wp W w p v N L pv k f) : Wp W w.drew p v N L pv k f := h.drewN 1
theorem Wp.push {W w w' : World} {p : Nat} {v : Value} {N L : Nat} {pv pv' : Value} {k : Nat} {f : Nat → Int} (h : Wp W w p v N L pv k f) (o : Obj) (hown : w'.ownsRow W.heap.size 3 1 pv' (k + 1) ((List.range k).map (fun i => .int .i64 (f i)) ++ [.int .i64 (f k)]))
    (hg : (w.alloc o).grownBy w' pv.ownBlock) : Wp W w' p v N L pv' (k + 1) f := by
  have hk : Keeps (fun i => pv.ownBlock = some i) w w' := (Keeps.alloc _ w o).trans (Keeps.grown hg fun _ h => h) fun _ _ h => h
  refine ⟨h.wr.keeps hk fun i hf hi => ?_, by rw [List.range_succ, List.map_append]; exact hown, h.below.trans (hk.below (fun _ hi => (row_lt h.row hi).1) h.below.size)⟩
  rcases hf with rfl | hf
  · exact row_blk_ne h.row h.wr.blk (by decide) hi
  · exact row_row_ne h.wr.row h.row (by decide) i hf hi
theorem row_cells {w : World} {base : Nat} {e : TypeId} {A : Option Addr} {n c : Nat} {f : Nat → Value} (ho : w.ownsRow base e 1 (.slice A n c) n ((List.range n).map f)) : Arr w w.heap.size A n f := by
  obtain ⟨A', cap, e, ha, _⟩ := row_arr ho
  injection e with e
  rw [e]; exact ha
/-- A reader in a call's own memory, a row of another kind beside it. -/
structure Rp (W w : World) (q : Nat) (u : Value) (B n o : Nat) (pv : Value) (k : Nat) (f : Nat → Int) : Prop where
  rd : Rd w W.heap.size q u B n o
  row : w.ownsRow W.heap.size 3 1 pv k ((List.range k).map fun i => .int .i64 (f i))
  below : Below W.heap.size W w
theorem Rp.drewN {W w : World} {q : Nat} {u : Value} {B n o : Nat} {pv : Value} {k : Nat} {f : Nat → Int} (h : Rp W w q u B n o pv k f) (m : Nat) : Rp W (w.drewN m) q u B n o pv k f :=
  ⟨h.rd.drewN m, (Keeps.drewN (fun _ => False) w m).row h.row fun _ _ h => h, below_drewN h.below m⟩
theorem Rp.step {W w w' : World} {q : Nat} {u : Value} {B n o o' : Nat} {pv : Value} {k : Nat} {f : Nat → Int} (h : Rp W w q u B n o pv k f) (hr : Rd w' W.heap.size q u B n o') (hk : Keeps (fun k => k = q) w w') : Rp W w' q u B n o' pv k f :=
  ⟨hr, hk.row h.row fun i hi e => row_blk_ne h.row h.rd.blk (by decide) (e ▸ hi), h.below.trans (hk.below (fun k e => by rw [e]; exact h.rd.low) h.below.size)⟩
set_option maxRecDepth 100000 in
set_option maxHeartbeats 4000000 in
theorem back8 (g : Pc) (A : Option Addr) (n c : Nat) (W : World) (hn : n ≤ 9223372036854775807) (hnc : n ≤ c) (hp : Pcs W W.heap.size A n g) (hok : g.Ok n) :
    Calls Try.prog 8 #[.slice A n c] W fun e W' => e = .returned (.bool true) ∧ Below W.heap.size W W' := by
  by_cases h300 : 300 < n
  · have HP := Lib.hid (hp.less (show 300 ≤ n by omega))
    have HK := Lib.hid (hok.less (show 300 ≤ n by omega))
    clear hp hok
    have t1 : decide ((300 : Int) < n) = true := by simp; omega
    go_enter Try.func8, Try.ntmps8
    go_wp2_with fail
    refine (awake9 W).mono ?_
    rintro e w1 ⟨rfl, hb1⟩
    have B1 := Lib.hid hb1
    clear hb1
    obtain ⟨m, hm1, hm2⟩ : ∃ m : Nat, (300 : Int) = m ∧ (300 : Nat) = m := ⟨300, rfl, rfl⟩
    have hm : m ≤ 300 := by omega
    rw [hm2] at HP HK
    go_wp2_with fail
    refine (new10 w1 W.heap.size B1.out.size).mono ?_
    rintro e w2 ⟨rfl, hb2, hw2⟩
    have P2 : Hid (Wp W w2 w1.heap.size (.slice none 0 0) 0 0 (.slice none 0 0) 0 (fun i => (g.pa i : Nat))) := Lib.hid ⟨hw2, World.ownsRow_nil _ _ _ _, B1.out.trans (hb2.mono B1.out.size)⟩
    clear hb2 hw2
    obtain ⟨p, hp⟩ : ∃ p, p = w1.heap.size := ⟨_, rfl⟩
    rw [← hp] at P2 ⊢
    clear hp B1
    go_wp2_with fail
    go_loopw [4, 5] (fun pv i wr => ∃ (k : Nat) (v : Value), k ≤ m ∧ i = .int .i64 k ∧ Wp W wr p v (g.nm k) (g.pl k) pv k (fun i => (g.pa i : Nat))) (fun _ i _ => m - (intOf i).toNat)
    case atStart => exact ⟨0, _, Nat.zero_le _, rfl, P2.out⟩
    case round =>
      clear P2
      obtain ⟨k, v, hk, rfl, hw⟩ := hrel
      have H0 := Lib.hid hw
      clear hw
      have hpl := g.pl_le k
      by_cases hlt : k < m
      · obtain ⟨b, off, rfl, hbl, hc⟩ := HP.out (by omega)
        have HC := Lib.hid hc
        have hbz : b < wr.heap.size := Nat.lt_of_lt_of_le hbl H0.out.below.size
        have HL := Lib.hid hbl
        clear hc hbl
        obtain ⟨x1, x2, x3⟩ := HC.out k hlt
        have c3 := (H0.out.below.cell (p := ⟨b, off + k * 3 + 2, none⟩) HL.out).trans x3
        clear x1 x2 x3
        have hsl := g.sz_le k
        have hpa := g.pa_ge k
        cases hal : g.al k
        · rw [hal] at c3
          have epa : g.pa k = g.pl k := by unfold Pc.pa; rw [hal]; rfl
          have H1 : Hid (Wp W wr p v (g.nm k) (g.pa k) _ k (fun i => (g.pa i : Nat))) := Lib.hid (by rw [epa]; exact H0.out)
          clear hal epa
          go_wp2_with fail
          refine (len16 _ _ p _ _ (g.pa k) H1.out.wr (by omega)).mono ?_
          rintro e _ ⟨rfl, m1, rfl⟩
          have H2 := Lib.hid (H1.out.drewN m1)
          obtain ⟨i0, hi0, hz0, hz1, hz2⟩ := info_parts info3
          have hbs : W.heap.size ≤ wr.heap.size := H1.out.below.size
          go_wp2_with (at_builtin; refine wpList_append_own _ rfl (.tmp 35) (.tmp 38) 23 rfl W.heap.size 3 i0 (.int .i64 0) 1 8 Try.underlying23 hi0 hz0 hz1 hz2 rfl (by omega) _ k _ rfl (H2.out.row.alloc _) ⟨wr.heap.size, 0, none⟩ 1 1 [.int .i64 (g.pa k : Nat)] rfl rfl (cell_one_new _ _ _) (by simp [Value.oneCell']) (by unfold maxLen; omega) (by omega) (by simp; omega) ?_; intro pv2 w4 hown hg _; have H4 := Lib.hid (H2.out.push _ hown hg); clear hown hg)
          clear hbs hz0 hz1 hz2 hi0
          obtain ⟨x1, x2, x3⟩ := HC.out k hlt
          have c1 := (H4.out.below.cell (p := ⟨b, off + k * 3, none⟩) HL.out).trans x1
          have c2 := (H4.out.below.cell (p := ⟨b, off + k * 3 + 1, none⟩) HL.out).trans x2
          obtain ⟨hV, hN1, hN2⟩ := HK.out k hlt
          clear x1 x2 x3
          have i1 : (0 : Int) ≤ (k : Int) := by omega
          have i2 : (k : Int) < m := by omega
          go_wp2_with fail
          go_region_held3 (fun w' => w'.cell? ⟨b, off + k * 3, none⟩ = some (.int .u32 (g.V k : Nat)) ∧ w'.cell? ⟨b, off + k * 3 + 1, none⟩ = some (.int .i64 (g.N k))) (go_keep)
            (first | (go_at_call 13; refine (pick13 (g.N k) 33 _ (by omega) (by omega) hN1 hN2).mono ?_; rintro e w5 ⟨rfl, rfl⟩; rw [g.sz_cast]) | (go_at_call 15; refine (H4.out.drew.put (g.V k) (g.sz k) hsl hV (by omega)).mono ?_; rintro e w5 ⟨rfl, v5, hw5⟩; have H5 := Lib.hid hw5; clear hw5; obtain ⟨y1, y2, y3⟩ := HC.out k hlt; have d1 := (H5.out.below.cell (p := ⟨b, off + k * 3, none⟩) HL.out).trans y1; have d2 := (H5.out.below.cell (p := ⟨b, off + k * 3 + 1, none⟩) HL.out).trans y2; clear y1 y2 y3))
          go_wp2_with fail
          go_roundw
          case rel => exact ⟨k + 1, v5, by omega, by go_num, H5.out⟩
          case measure => simp [intOf]; omega
        · rw [hal] at c3
          have epa : up8 (g.pl k) = g.pa k := by unfold Pc.pa; rw [hal]; rfl
          have EP := Lib.hid epa
          clear hal epa
          go_wp2_with fail
          refine (H0.out.align (by omega)).mono ?_
          rintro e w3 ⟨rfl, v3, hw3⟩
          rw [EP.out] at hw3
          have H1 := Lib.hid hw3
          clear hw3 c3
          go_wp2_with fail
          refine (len16 _ _ p _ _ (g.pa k) H1.out.wr (by omega)).mono ?_
          rintro e _ ⟨rfl, m1, rfl⟩
          have H2 := Lib.hid (H1.out.drewN m1)
          obtain ⟨i0, hi0, hz0, hz1, hz2⟩ := info_parts info3
          have hbs : W.heap.size ≤ w3.heap.size := H1.out.below.size
          go_wp2_with (at_builtin; refine wpList_append_own _ rfl (.tmp 35) (.tmp 38) 23 rfl W.heap.size 3 i0 (.int .i64 0) 1 8 Try.underlying23 hi0 hz0 hz1 hz2 rfl (by omega) _ k _ rfl (H2.out.row.alloc _) ⟨w3.heap.size, 0, none⟩ 1 1 [.int .i64 (g.pa k : Nat)] rfl rfl (cell_one_new _ _ _) (by simp [Value.oneCell']) (by unfold maxLen; omega) (by omega) (by simp; omega) ?_; intro pv2 w4 hown hg _; have H4 := Lib.hid (H2.out.push _ hown hg); clear hown hg)
          clear hbs hz0 hz1 hz2 hi0
          obtain ⟨x1, x2, x3⟩ := HC.out k hlt
          have c1 := (H4.out.below.cell (p := ⟨b, off + k * 3, none⟩) HL.out).trans x1
          have c2 := (H4.out.below.cell (p := ⟨b, off + k * 3 + 1, none⟩) HL.out).trans x2
          obtain ⟨hV, hN1, hN2⟩ := HK.out k hlt
          clear x1 x2 x3
          have i1 : (0 : Int) ≤ (k : Int) := by omega
          have i2 : (k : Int) < m := by omega
          go_wp2_with fail
          go_region_held3 (fun w' => w'.cell? ⟨b, off + k * 3, none⟩ = some (.int .u32 (g.V k : Nat)) ∧ w'.cell? ⟨b, off + k * 3 + 1, none⟩ = some (.int .i64 (g.N k))) (go_keep)
            (first | (go_at_call 13; refine (pick13 (g.N k) 33 _ (by omega) (by omega) hN1 hN2).mono ?_; rintro e w5 ⟨rfl, rfl⟩; rw [g.sz_cast]) | (go_at_call 15; refine (H4.out.drew.put (g.V k) (g.sz k) hsl hV (by omega)).mono ?_; rintro e w5 ⟨rfl, v5, hw5⟩; have H5 := Lib.hid hw5; clear hw5; obtain ⟨y1, y2, y3⟩ := HC.out k hlt; have d1 := (H5.out.below.cell (p := ⟨b, off + k * 3, none⟩) HL.out).trans y1; have d2 := (H5.out.below.cell (p := ⟨b, off + k * 3 + 1, none⟩) HL.out).trans y2; clear y1 y2 y3))
          go_wp2_with fail
          go_roundw
          case rel => exact ⟨k + 1, v5, by omega, by go_num, H5.out⟩
          case measure => simp [intOf]; omega
      · obtain rfl : k = m := by omega
        go_wp2_with fail
        refine (bytes18 _ _ p _ _ (g.pl k) H0.out.wr (by omega)).mono ?_
        rintro e w3 ⟨v3, rfl, hb3, hrow3⟩
        have B3 := Lib.hid (H0.out.below.trans (hb3.mono H0.out.below.size))
        have P3 := Lib.hid ((Keeps.fresh hb3).row H0.out.row fun _ _ h => h)
        obtain ⟨A3, cap3, rfl, ha3, _, _, hn3⟩ := row_arr hrow3
        have A3' := Lib.hid (And.intro ha3 hn3)
        clear hb3 hrow3 ha3 hn3 H0
        go_wp2_with fail
        refine (newr11 w3 (g.nm k) A3 ((g.pl k + 7) / 8) cap3 (by omega) A3'.out.1 A3'.out.2).mono ?_
        rintro e w4 ⟨q, u, rfl, hq, hb4, hr4⟩
        have P4 := (Keeps.fresh hb4).row P3.out fun _ _ h => h
        obtain ⟨PA, pcap, rfl, _, _, _, _⟩ := row_arr P4
        have H4 : Hid (Rp W w4 q u (g.nm k) ((g.pl k + 7) / 8) (g.pl 0) (.slice PA k pcap) k (fun i => (g.pa i : Nat))) := Lib.hid ⟨hr4.more B3.out.size, P4, B3.out.trans (hb4.mono B3.out.size)⟩
        clear hb4 hr4 P4 P3 A3' B3 hq
        obtain ⟨m, rfl⟩ : ∃ m, m = k := ⟨k, rfl⟩
        go_wp2_with fail
        go_loopw [7] (fun i wr => ∃ k : Nat, k ≤ m ∧ i = .int .i64 k ∧ Rp W wr q u (g.nm m) ((g.pl m + 7) / 8) (g.pl k) (.slice PA m pcap) m (fun i => (g.pa i : Nat))) (fun i _ => m - (intOf i).toNat)
        case atStart => exact ⟨0, Nat.zero_le _, rfl, H4.out⟩
        case round =>
          clear H4
          obtain ⟨k, hk, rfl, hw⟩ := hrel
          have H0 := Lib.hid hw
          clear hw
          have hpl2 := g.pl_le k
          by_cases hlt : k < m
          · obtain ⟨b, off, rfl, hbl, hc⟩ := HP.out (by omega)
            have HL := Lib.hid hbl
            obtain ⟨x1, x2, x3⟩ := hc k hlt
            clear hc hbl
            have c2 := (H0.out.below.cell (p := ⟨b, off + k * 3 + 1, none⟩) HL.out).trans x2
            have c3 := (H0.out.below.cell (p := ⟨b, off + k * 3 + 2, none⟩) HL.out).trans x3
            obtain ⟨hV, hN1, hN2⟩ := HK.out k hlt
            clear x2 x3
            have X1 := Lib.hid x1
            clear x1
            have hsl := g.sz_le k
            have hpa := g.pa_ge k
            have hmx := H0.out.rd.at_le
            go_wp2_with fail
            refine (pick13 (g.N k) 33 _ (by omega) (by omega) hN1 hN2).mono ?_
            rintro e _ ⟨rfl, rfl⟩
            rw [g.sz_cast]
            clear c2 hN1 hN2
            cases hal : g.al k
            · rw [hal] at c3
              have epa : g.pa k = g.pl k := by unfold Pc.pa; rw [hal]; rfl
              have H1 : Hid (Rp W wr q u (g.nm m) ((g.pl m + 7) / 8) (g.pa k) (.slice PA m pcap) m (fun i => (g.pa i : Nat))) := Lib.hid (by rw [epa]; exact H0.out)
              clear hal epa
              have x1 := X1.out
              go_wp2_with fail
              clear c3
              obtain ⟨pb, poff, rfl, hpb, hpc⟩ := (row_cells H1.out.row) (by omega)
              have cp := hpc k hlt
              clear hpb hpc
              have i1 : (0 : Int) ≤ (k : Int) := by omega
              have i2 : (k : Int) < m := by omega
              go_wp2_with fail
              go_quiet ((go_at_call 31; exact quiet_left (at31 _ _ q u _ _ (g.pa k) (H1.out.rd.drewN _))))
              clear cp
              go_wp2_with fail
              refine (get14 _ _ q u _ _ (g.pa k) (g.sz k) (H1.out.rd.drewN _) hsl (by have := g.pl_mono (show k + 1 ≤ m by omega); rw [g.pl_succ] at this; omega)).mono ?_
              rintro e w6 ⟨rfl, hr6, hk6⟩
              rw [g.nm_get k m hlt]
              have H6 : Hid (Rp W w6 q u (g.nm m) ((g.pl m + 7) / 8) (g.pl (k + 1)) (.slice (some ⟨pb, poff, none⟩) m pcap) m (fun i => (g.pa i : Nat))) := Lib.hid ((H1.out.drewN _).step hr6 hk6)
              clear hr6 hk6
              have c1 := (H6.out.below.cell (p := ⟨b, off + k * 3, none⟩) HL.out).trans x1
              have em := and_mask (V := g.V k) (n := g.sz k) (by omega) hsl
              have ey : g.V k % 2 ^ g.sz k < 4294967296 := Nat.lt_of_le_of_lt (Nat.mod_le _ _) hV
              obtain ⟨y, hy⟩ : ∃ y, y = g.V k % 2 ^ g.sz k := ⟨_, rfl⟩
              rw [← hy] at em ey ⊢
              clear hy x1
              go_wp2_with fail
              go_roundw
              case rel => exact ⟨k + 1, by omega, by go_num, H6.out⟩
              case measure => simp [intOf]; omega
            · rw [hal] at c3
              have epa : up8 (g.pl k) = g.pa k := by unfold Pc.pa; rw [hal]; rfl
              have EP := Lib.hid epa
              clear hal epa
              go_wp2_with fail
              refine (alignr28 _ _ q u _ _ _ H0.out.rd).mono ?_
              rintro e w5 ⟨rfl, hr5, hk5⟩
              have h5 := H0.out.step hr5 hk5
              have e8 : 8 * ((g.pl k + 7) / 8) = g.pa k := EP.out
              rw [e8] at h5
              have H1 := Lib.hid h5
              clear h5 hr5 hk5 e8 c3
              have x1 := X1.out
              obtain ⟨pb, poff, rfl, hpb, hpc⟩ := (row_cells H1.out.row) (by omega)
              have cp := hpc k hlt
              clear hpb hpc
              have i1 : (0 : Int) ≤ (k : Int) := by omega
              have i2 : (k : Int) < m := by omega
              go_wp2_with fail
              go_quiet ((go_at_call 31; exact quiet_left (at31 _ _ q u _ _ (g.pa k) (H1.out.rd.drewN _))))
              clear cp
              go_wp2_with fail
              refine (get14 _ _ q u _ _ (g.pa k) (g.sz k) (H1.out.rd.drewN _) hsl (by have := g.pl_mono (show k + 1 ≤ m by omega); rw [g.pl_succ] at this; omega)).mono ?_
              rintro e w6 ⟨rfl, hr6, hk6⟩
              rw [g.nm_get k m hlt]
              have H6 : Hid (Rp W w6 q u (g.nm m) ((g.pl m + 7) / 8) (g.pl (k + 1)) (.slice (some ⟨pb, poff, none⟩) m pcap) m (fun i => (g.pa i : Nat))) := Lib.hid ((H1.out.drewN _).step hr6 hk6)
              clear hr6 hk6
              have c1 := (H6.out.below.cell (p := ⟨b, off + k * 3, none⟩) HL.out).trans x1
              have em := and_mask (V := g.V k) (n := g.sz k) (by omega) hsl
              have ey : g.V k % 2 ^ g.sz k < 4294967296 := Nat.lt_of_le_of_lt (Nat.mod_le _ _) hV
              obtain ⟨y, hy⟩ : ∃ y, y = g.V k % 2 ^ g.sz k := ⟨_, rfl⟩
              rw [← hy] at em ey ⊢
              clear hy x1
              go_wp2_with fail
              go_roundw
              case rel => exact ⟨k + 1, by omega, by go_num, H6.out⟩
              case measure => simp [intOf]; omega
          · obtain rfl : k = m := by omega
            obtain ⟨r, hr⟩ : ∃ r, r = 8 * ((g.pl k + 7) / 8) - g.pl k := ⟨_, rfl⟩
            have hr8 : r < 8 := by omega
            have hr9 : g.pl k + r ≤ 8 * ((g.pl k + 7) / 8) := by omega
            go_wp2_with fail
            refine (left12 _ _ q u _ _ _ H0.out.rd).mono ?_
            rintro e _ ⟨rfl, m7, rfl⟩
            rw [← hr]
            clear hr
            go_wp2_with fail
            refine (get14 _ _ q u _ _ _ r (H0.out.rd.drewN m7) (by omega) hr9).mono ?_
            rintro e w8 ⟨rfl, hr8', hk8⟩
            have H8 := Lib.hid ((H0.out.drewN m7).step hr8' hk8)
            clear hr8' hk8
            rw [Nat.div_eq_of_lt (g.nm_lt k), Nat.zero_mod]
            go_wp2_with fail
            go_ret
            exact ⟨rfl, H8.out.below⟩
  · have HP := Lib.hid hp
    have HK := Lib.hid hok
    clear hp hok
    have t1 : decide ((300 : Int) < n) = false := by simp; omega
    obtain ⟨m, rfl⟩ : ∃ m, m = n := ⟨n, rfl⟩
    go_enter Try.func8, Try.ntmps8
    go_wp2_with fail
    refine (awake9 W).mono ?_
    rintro e w1 ⟨rfl, hb1⟩
    have B1 := Lib.hid hb1
    clear hb1
    go_wp2_with fail
    refine (new10 w1 W.heap.size B1.out.size).mono ?_
    rintro e w2 ⟨rfl, hb2, hw2⟩
    have P2 : Hid (Wp W w2 w1.heap.size (.slice none 0 0) 0 0 (.slice none 0 0) 0 (fun i => (g.pa i : Nat))) := Lib.hid ⟨hw2, World.ownsRow_nil _ _ _ _, B1.out.trans (hb2.mono B1.out.size)⟩
    clear hb2 hw2
    obtain ⟨p, hp⟩ : ∃ p, p = w1.heap.size := ⟨_, rfl⟩
    rw [← hp] at P2 ⊢
    clear hp B1
    go_wp2_with fail
    go_loopw [4, 5] (fun pv i wr => ∃ (k : Nat) (v : Value), k ≤ m ∧ i = .int .i64 k ∧ Wp W wr p v (g.nm k) (g.pl k) pv k (fun i => (g.pa i : Nat))) (fun _ i _ => m - (intOf i).toNat)
    case atStart => exact ⟨0, _, Nat.zero_le _, rfl, P2.out⟩
    case round =>
      clear P2
      obtain ⟨k, v, hk, rfl, hw⟩ := hrel
      have H0 := Lib.hid hw
      clear hw
      have hpl := g.pl_le k
      by_cases hlt : k < m
      · obtain ⟨b, off, rfl, hbl, hc⟩ := HP.out (by omega)
        have HC := Lib.hid hc
        have hbz : b < wr.heap.size := Nat.lt_of_lt_of_le hbl H0.out.below.size
        have HL := Lib.hid hbl
        clear hc hbl
        obtain ⟨x1, x2, x3⟩ := HC.out k hlt
        have c3 := (H0.out.below.cell (p := ⟨b, off + k * 3 + 2, none⟩) HL.out).trans x3
        clear x1 x2 x3
        have hsl := g.sz_le k
        have hpa := g.pa_ge k
        cases hal : g.al k
        · rw [hal] at c3
          have epa : g.pa k = g.pl k := by unfold Pc.pa; rw [hal]; rfl
          have H1 : Hid (Wp W wr p v (g.nm k) (g.pa k) _ k (fun i => (g.pa i : Nat))) := Lib.hid (by rw [epa]; exact H0.out)
          clear hal epa
          go_wp2_with fail
          refine (len16 _ _ p _ _ (g.pa k) H1.out.wr (by omega)).mono ?_
          rintro e _ ⟨rfl, m1, rfl⟩
          have H2 := Lib.hid (H1.out.drewN m1)
          obtain ⟨i0, hi0, hz0, hz1, hz2⟩ := info_parts info3
          have hbs : W.heap.size ≤ wr.heap.size := H1.out.below.size
          go_wp2_with (at_builtin; refine wpList_append_own _ rfl (.tmp 35) (.tmp 38) 23 rfl W.heap.size 3 i0 (.int .i64 0) 1 8 Try.underlying23 hi0 hz0 hz1 hz2 rfl (by omega) _ k _ rfl (H2.out.row.alloc _) ⟨wr.heap.size, 0, none⟩ 1 1 [.int .i64 (g.pa k : Nat)] rfl rfl (cell_one_new _ _ _) (by simp [Value.oneCell']) (by unfold maxLen; omega) (by omega) (by simp; omega) ?_; intro pv2 w4 hown hg _; have H4 := Lib.hid (H2.out.push _ hown hg); clear hown hg)
          clear hbs hz0 hz1 hz2 hi0
          obtain ⟨x1, x2, x3⟩ := HC.out k hlt
          have c1 := (H4.out.below.cell (p := ⟨b, off + k * 3, none⟩) HL.out).trans x1
          have c2 := (H4.out.below.cell (p := ⟨b, off + k * 3 + 1, none⟩) HL.out).trans x2
          obtain ⟨hV, hN1, hN2⟩ := HK.out k hlt
          clear x1 x2 x3
          have i1 : (0 : Int) ≤ (k : Int) := by omega
          have i2 : (k : Int) < m := by omega
          go_wp2_with fail
          go_region_held3 (fun w' => w'.cell? ⟨b, off + k * 3, none⟩ = some (.int .u32 (g.V k : Nat)) ∧ w'.cell? ⟨b, off + k * 3 + 1, none⟩ = some (.int .i64 (g.N k))) (go_keep)
            (first | (go_at_call 13; refine (pick13 (g.N k) 33 _ (by omega) (by omega) hN1 hN2).mono ?_; rintro e w5 ⟨rfl, rfl⟩; rw [g.sz_cast]) | (go_at_call 15; refine (H4.out.drew.put (g.V k) (g.sz k) hsl hV (by omega)).mono ?_; rintro e w5 ⟨rfl, v5, hw5⟩; have H5 := Lib.hid hw5; clear hw5; obtain ⟨y1, y2, y3⟩ := HC.out k hlt; have d1 := (H5.out.below.cell (p := ⟨b, off + k * 3, none⟩) HL.out).trans y1; have d2 := (H5.out.below.cell (p := ⟨b, off + k * 3 + 1, none⟩) HL.out).trans y2; clear y1 y2 y3))
          go_wp2_with fail
          go_roundw
          case rel => exact ⟨k + 1, v5, by omega, by go_num, H5.out⟩
          case measure => simp [intOf]; omega
        · rw [hal] at c3
          have epa : up8 (g.pl k) = g.pa k := by unfold Pc.pa; rw [hal]; rfl
          have EP := Lib.hid epa
          clear hal epa
          go_wp2_with fail
          refine (H0.out.align (by omega)).mono ?_
          rintro e w3 ⟨rfl, v3, hw3⟩
          rw [EP.out] at hw3
          have H1 := Lib.hid hw3
          clear hw3 c3
          go_wp2_with fail
          refine (len16 _ _ p _ _ (g.pa k) H1.out.wr (by omega)).mono ?_
          rintro e _ ⟨rfl, m1, rfl⟩
          have H2 := Lib.hid (H1.out.drewN m1)
          obtain ⟨i0, hi0, hz0, hz1, hz2⟩ := info_parts info3
          have hbs : W.heap.size ≤ w3.heap.size := H1.out.below.size
          go_wp2_with (at_builtin; refine wpList_append_own _ rfl (.tmp 35) (.tmp 38) 23 rfl W.heap.size 3 i0 (.int .i64 0) 1 8 Try.underlying23 hi0 hz0 hz1 hz2 rfl (by omega) _ k _ rfl (H2.out.row.alloc _) ⟨w3.heap.size, 0, none⟩ 1 1 [.int .i64 (g.pa k : Nat)] rfl rfl (cell_one_new _ _ _) (by simp [Value.oneCell']) (by unfold maxLen; omega) (by omega) (by simp; omega) ?_; intro pv2 w4 hown hg _; have H4 := Lib.hid (H2.out.push _ hown hg); clear hown hg)
          clear hbs hz0 hz1 hz2 hi0
          obtain ⟨x1, x2, x3⟩ := HC.out k hlt
          have c1 := (H4.out.below.cell (p := ⟨b, off + k * 3, none⟩) HL.out).trans x1
          have c2 := (H4.out.below.cell (p := ⟨b, off + k * 3 + 1, none⟩) HL.out).trans x2
          obtain ⟨hV, hN1, hN2⟩ := HK.out k hlt
          clear x1 x2 x3
          have i1 : (0 : Int) ≤ (k : Int) := by omega
          have i2 : (k : Int) < m := by omega
          go_wp2_with fail
          go_region_held3 (fun w' => w'.cell? ⟨b, off + k * 3, none⟩ = some (.int .u32 (g.V k : Nat)) ∧ w'.cell? ⟨b, off + k * 3 + 1, none⟩ = some (.int .i64 (g.N k))) (go_keep)
            (first | (go_at_call 13; refine (pick13 (g.N k) 33 _ (by omega) (by omega) hN1 hN2).mono ?_; rintro e w5 ⟨rfl, rfl⟩; rw [g.sz_cast]) | (go_at_call 15; refine (H4.out.drew.put (g.V k) (g.sz k) hsl hV (by omega)).mono ?_; rintro e w5 ⟨rfl, v5, hw5⟩; have H5 := Lib.hid hw5; clear hw5; obtain ⟨y1, y2, y3⟩ := HC.out k hlt; have d1 := (H5.out.below.cell (p := ⟨b, off + k * 3, none⟩) HL.out).trans y1; have d2 := (H5.out.below.cell (p := ⟨b, off + k * 3 + 1, none⟩) HL.out).trans y2; clear y1 y2 y3))
          go_wp2_with fail
          go_roundw
          case rel => exact ⟨k + 1, v5, by omega, by go_num, H5.out⟩
          case measure => simp [intOf]; omega
      · obtain rfl : k = m := by omega
        go_wp2_with fail
        refine (bytes18 _ _ p _ _ (g.pl k) H0.out.wr (by omega)).mono ?_
        rintro e w3 ⟨v3, rfl, hb3, hrow3⟩
        have B3 := Lib.hid (H0.out.below.trans (hb3.mono H0.out.below.size))
        have P3 := Lib.hid ((Keeps.fresh hb3).row H0.out.row fun _ _ h => h)
        obtain ⟨A3, cap3, rfl, ha3, _, _, hn3⟩ := row_arr hrow3
        have A3' := Lib.hid (And.intro ha3 hn3)
        clear hb3 hrow3 ha3 hn3 H0
        go_wp2_with fail
        refine (newr11 w3 (g.nm k) A3 ((g.pl k + 7) / 8) cap3 (by omega) A3'.out.1 A3'.out.2).mono ?_
        rintro e w4 ⟨q, u, rfl, hq, hb4, hr4⟩
        have P4 := (Keeps.fresh hb4).row P3.out fun _ _ h => h
        obtain ⟨PA, pcap, rfl, _, _, _, _⟩ := row_arr P4
        have H4 : Hid (Rp W w4 q u (g.nm k) ((g.pl k + 7) / 8) (g.pl 0) (.slice PA k pcap) k (fun i => (g.pa i : Nat))) := Lib.hid ⟨hr4.more B3.out.size, P4, B3.out.trans (hb4.mono B3.out.size)⟩
        clear hb4 hr4 P4 P3 A3' B3 hq
        obtain ⟨m, rfl⟩ : ∃ m, m = k := ⟨k, rfl⟩
        go_wp2_with fail
        go_loopw [7] (fun i wr => ∃ k : Nat, k ≤ m ∧ i = .int .i64 k ∧ Rp W wr q u (g.nm m) ((g.pl m + 7) / 8) (g.pl k) (.slice PA m pcap) m (fun i => (g.pa i : Nat))) (fun i _ => m - (intOf i).toNat)
        case atStart => exact ⟨0, Nat.zero_le _, rfl, H4.out⟩
        case round =>
          clear H4
          obtain ⟨k, hk, rfl, hw⟩ := hrel
          have H0 := Lib.hid hw
          clear hw
          have hpl2 := g.pl_le k
          by_cases hlt : k < m
          · obtain ⟨b, off, rfl, hbl, hc⟩ := HP.out (by omega)
            have HL := Lib.hid hbl
            obtain ⟨x1, x2, x3⟩ := hc k hlt
            clear hc hbl
            have c2 := (H0.out.below.cell (p := ⟨b, off + k * 3 + 1, none⟩) HL.out).trans x2
            have c3 := (H0.out.below.cell (p := ⟨b, off + k * 3 + 2, none⟩) HL.out).trans x3
            obtain ⟨hV, hN1, hN2⟩ := HK.out k hlt
            clear x2 x3
            have X1 := Lib.hid x1
            clear x1
            have hsl := g.sz_le k
            have hpa := g.pa_ge k
            have hmx := H0.out.rd.at_le
            go_wp2_with fail
            refine (pick13 (g.N k) 33 _ (by omega) (by omega) hN1 hN2).mono ?_
            rintro e _ ⟨rfl, rfl⟩
            rw [g.sz_cast]
            clear c2 hN1 hN2
            cases hal : g.al k
            · rw [hal] at c3
              have epa : g.pa k = g.pl k := by unfold Pc.pa; rw [hal]; rfl
              have H1 : Hid (Rp W wr q u (g.nm m) ((g.pl m + 7) / 8) (g.pa k) (.slice PA m pcap) m (fun i => (g.pa i : Nat))) := Lib.hid (by rw [epa]; exact H0.out)
              clear hal epa
              have x1 := X1.out
              go_wp2_with fail
              clear c3
              obtain ⟨pb, poff, rfl, hpb, hpc⟩ := (row_cells H1.out.row) (by omega)
              have cp := hpc k hlt
              clear hpb hpc
              have i1 : (0 : Int) ≤ (k : Int) := by omega
              have i2 : (k : Int) < m := by omega
              go_wp2_with fail
              go_quiet ((go_at_call 31; exact quiet_left (at31 _ _ q u _ _ (g.pa k) (H1.out.rd.drewN _))))
              clear cp
              go_wp2_with fail
              refine (get14 _ _ q u _ _ (g.pa k) (g.sz k) (H1.out.rd.drewN _) hsl (by have := g.pl_mono (show k + 1 ≤ m by omega); rw [g.pl_succ] at this; omega)).mono ?_
              rintro e w6 ⟨rfl, hr6, hk6⟩
              rw [g.nm_get k m hlt]
              have H6 : Hid (Rp W w6 q u (g.nm m) ((g.pl m + 7) / 8) (g.pl (k + 1)) (.slice (some ⟨pb, poff, none⟩) m pcap) m (fun i => (g.pa i : Nat))) := Lib.hid ((H1.out.drewN _).step hr6 hk6)
              clear hr6 hk6
              have c1 := (H6.out.below.cell (p := ⟨b, off + k * 3, none⟩) HL.out).trans x1
              have em := and_mask (V := g.V k) (n := g.sz k) (by omega) hsl
              have ey : g.V k % 2 ^ g.sz k < 4294967296 := Nat.lt_of_le_of_lt (Nat.mod_le _ _) hV
              obtain ⟨y, hy⟩ : ∃ y, y = g.V k % 2 ^ g.sz k := ⟨_, rfl⟩
              rw [← hy] at em ey ⊢
              clear hy x1
              go_wp2_with fail
              go_roundw
              case rel => exact ⟨k + 1, by omega, by go_num, H6.out⟩
              case measure => simp [intOf]; omega
            · rw [hal] at c3
              have epa : up8 (g.pl k) = g.pa k := by unfold Pc.pa; rw [hal]; rfl
              have EP := Lib.hid epa
              clear hal epa
              go_wp2_with fail
              refine (alignr28 _ _ q u _ _ _ H0.out.rd).mono ?_
              rintro e w5 ⟨rfl, hr5, hk5⟩
              have h5 := H0.out.step hr5 hk5
              have e8 : 8 * ((g.pl k + 7) / 8) = g.pa k := EP.out
              rw [e8] at h5
              have H1 := Lib.hid h5
              clear h5 hr5 hk5 e8 c3
              have x1 := X1.out
              obtain ⟨pb, poff, rfl, hpb, hpc⟩ := (row_cells H1.out.row) (by omega)
              have cp := hpc k hlt
              clear hpb hpc
              have i1 : (0 : Int) ≤ (k : Int) := by omega
              have i2 : (k : Int) < m := by omega
              go_wp2_with fail
              go_quiet ((go_at_call 31; exact quiet_left (at31 _ _ q u _ _ (g.pa k) (H1.out.rd.drewN _))))
              clear cp
              go_wp2_with fail
              refine (get14 _ _ q u _ _ (g.pa k) (g.sz k) (H1.out.rd.drewN _) hsl (by have := g.pl_mono (show k + 1 ≤ m by omega); rw [g.pl_succ] at this; omega)).mono ?_
              rintro e w6 ⟨rfl, hr6, hk6⟩
              rw [g.nm_get k m hlt]
              have H6 : Hid (Rp W w6 q u (g.nm m) ((g.pl m + 7) / 8) (g.pl (k + 1)) (.slice (some ⟨pb, poff, none⟩) m pcap) m (fun i => (g.pa i : Nat))) := Lib.hid ((H1.out.drewN _).step hr6 hk6)
              clear hr6 hk6
              have c1 := (H6.out.below.cell (p := ⟨b, off + k * 3, none⟩) HL.out).trans x1
              have em := and_mask (V := g.V k) (n := g.sz k) (by omega) hsl
              have ey : g.V k % 2 ^ g.sz k < 4294967296 := Nat.lt_of_le_of_lt (Nat.mod_le _ _) hV
              obtain ⟨y, hy⟩ : ∃ y, y = g.V k % 2 ^ g.sz k := ⟨_, rfl⟩
              rw [← hy] at em ey ⊢
              clear hy x1
              go_wp2_with fail
              go_roundw
              case rel => exact ⟨k + 1, by omega, by go_num, H6.out⟩
              case measure => simp [intOf]; omega
          · obtain rfl : k = m := by omega
            obtain ⟨r, hr⟩ : ∃ r, r = 8 * ((g.pl k + 7) / 8) - g.pl k := ⟨_, rfl⟩
            have hr8 : r < 8 := by omega
            have hr9 : g.pl k + r ≤ 8 * ((g.pl k + 7) / 8) := by omega
            go_wp2_with fail
            refine (left12 _ _ q u _ _ _ H0.out.rd).mono ?_
            rintro e _ ⟨rfl, m7, rfl⟩
            rw [← hr]
            clear hr
            go_wp2_with fail
            refine (get14 _ _ q u _ _ _ r (H0.out.rd.drewN m7) (by omega) hr9).mono ?_
            rintro e w8 ⟨rfl, hr8', hk8⟩
            have H8 := Lib.hid ((H0.out.drewN m7).step hr8' hk8)
            clear hr8' hk8
            rw [Nat.div_eq_of_lt (g.nm_lt k), Nat.zero_mod]
            go_wp2_with fail
            go_ret
            exact ⟨rfl, H8.out.below⟩
end Go.Proofs.Ytkkjcbakgjabdaa
