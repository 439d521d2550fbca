/- Layer 18 (usage): the program's Used, its first loop. -/
import Derived.Test.YthhmhcfahlnmpaaUc
import Derived.Laws.MakeOwn
import Derived.RegionTactic
import Derived.BigRegion
import Derived.IntWalk
namespace Go.Proofs.Ythhmhcfahlnmpaa
open Go.RowKit
def cntRow (g : Geo) (L : Nat → Pl) (S n : Nat) : List Value := (List.range S).map fun k => Value.int .i64 (cntP g L k n)
def UsedPost (g : Geo) (L : Nat → Pl) (n : Nat) (w : World) (e : Ending) (w' : World) : Prop :=
  ∃ v, e = .returned (.tuple #[v, .int .i64 (usedE g L n)]) ∧ (usedE g L n = 0 → w'.ownsRow w.heap.size 3 1 v g.S.toNat (cntRow g L g.S.toNat n)) ∧ (usedE g L n ≠ 0 → v = .slice none 0 0) ∧ Below w.heap.size w w'
theorem cntRow_0 (g : Geo) (L : Nat → Pl) (S : Nat) : (madeCells (Value.int .i64 0).cells (S * 1)).toList = cntRow g L S 0 := by
  rw [Nat.mul_one]
  refine (toList_madeCells_one _ _).trans ?_
  apply List.ext_getElem?
  intro i
  rw [cntRow, List.getElem?_map, List.getElem?_replicate]
  by_cases h : i < S
  · rw [List.getElem?_range h, if_pos h]; rfl
  · rw [List.getElem?_eq_none (by simpa using h), if_neg h]; rfl
theorem cntRow_s {g : Geo} {L : Nat → Pl} {S n k : Nat} (hk : k < S) (h : (inV g (L n).a).1 = (k : Int)) : (cntRow g L S n).set k (.int .i64 (cntP g L k n + (L n).n)) = cntRow g L S (n + 1) := by
  apply List.ext_getElem?
  intro i
  rw [List.getElem?_set, cntRow, cntRow]
  by_cases e : k = i
  · subst e
    simp [hk, cntP, h]
  · rw [if_neg e]
    by_cases hi : i < S
    · rw [List.getElem?_map, List.getElem?_map, List.getElem?_range hi]
      simp only [Option.map_some, cntP]
      rw [h, if_neg (by omega), Int.add_zero]
    · rw [List.getElem?_eq_none (by simpa using hi), List.getElem?_eq_none (by simpa using hi)]
theorem cntRow_at {g : Geo} {L : Nat → Pl} {S n k : Nat} (hk : k < S) : (cntRow g L S n)[k]? = some (.int .i64 (cntP g L k n)) := by
  rw [cntRow, List.getElem?_map, List.getElem?_range hk]; rfl
theorem sarr4_at {w : World} {b off n : Nat} {L : Nat → Pl} (hc : ∀ j, j < n → w.rangeAt b (off + j * 4) (encP (L j))) {k : Nat} (hk : k < n) :
    w.cell? ⟨b, off + k * 4, none⟩ = some (.int .i64 (L k).a) ∧ w.cell? ⟨b, off + k * 4 + 1, none⟩ = some (.int .i64 (L k).n) ∧ w.cell? ⟨b, off + k * 4 + 2, none⟩ = some (.int .i64 (L k).u) ∧ w.cell? ⟨b, off + k * 4 + 3, none⟩ = some (.int .i64 (L k).r) :=
  ⟨hc k hk 0 _ rfl, hc k hk 1 _ rfl, hc k hk 2 _ rfl, hc k hk 3 _ rfl⟩
theorem box4 {W : World} {p : Pl} {b : Nat} {z : Nat × Nat} (h : W.heap[b]? = some (.cells #[.int .i64 p.a, .int .i64 p.n, .int .i64 p.u, .int .i64 p.r] 42 z)) :
    W.cell? ⟨b, 0, none⟩ = some (.int .i64 p.a) ∧ W.cell? ⟨b, 1, none⟩ = some (.int .i64 p.n) ∧ W.cell? ⟨b, 2, none⟩ = some (.int .i64 p.u) ∧ W.cell? ⟨b, 3, none⟩ = some (.int .i64 p.r) :=
  ⟨block_cell h 0 _ rfl, block_cell h 1 _ rfl, block_cell h 2 _ rfl, block_cell h 3 _ rfl⟩
theorem ret_e {v : Value} {a b : Int} (h : a = b) : Ending.returned (.tuple #[v, .int .i64 a]) = .returned (.tuple #[v, .int .i64 b]) := by rw [h]
theorem infoI : (Try.prog.info? 3).map (fun i => (i.zero, i.size, i.bytes)) = some (some (.int .i64 0), 1, 8) := by kernel_rfl
theorem rows_neG {w : World} {base g n c s : Nat} {e t : TypeId} {xs : List Value} {cs : Array Value} {z : Nat × Nat} (h : w.ownsRow base e s (.slice (some ⟨g, 0, none⟩) n c) n xs) (h2 : w.heap[g]? = some (.cells cs t z)) (ht : e ≠ t) : False := by
  obtain ⟨cur, h3, _⟩ := row_blk h
  rw [h3] at h2
  injection h2 with h2
  injection h2 with _ h2
  exact ht h2
theorem perm_ok {g : Geo} {L : Nat → Pl} {n : Nat} {d : Array Pl} (hok : ∀ j, j < n → okP g (L j) = true) (hp : Go.Sort.PermIn 0 n (rowOf L n) d) : ∀ i, i < n → okP g d[i]! = true := fun i hi => by
  have hd : d.size = n := by rw [hp.1, rowOf_size]
  have h2 := hp.2.2
  have e1 : d.extract 0 n = d := by rw [← hd]; simp
  rw [e1] at h2
  have hm : d[i]! ∈ d.toList := by rw [getElem!_pos d i (by omega)]; simp
  have h3 := h2.mem_iff.1 hm
  have h4 : d[i]! ∈ rowOf L n := by
    have h5 : (rowOf L n).extract 0 n = rowOf L n := by
      have h := rowOf_size L n
      generalize rowOf L n = r at h
      rw [← h]; simp
    rw [h5] at h3
    simpa using h3
  simp only [rowOf, List.mem_toArray, List.mem_map, List.mem_range] at h4
  obtain ⟨j, hj, e⟩ := h4
  rw [← e]; exact hok j hj
theorem no_fine {g : Geo} {L : Nat → Pl} {n k : Nat} (hk : k < n) (h : okP g (L k) = false) : fineB g L n = false := by
  unfold fineB
  rw [decide_eq_false_iff_not]
  intro hx
  rw [hx.1 k hk] at h; cases h
theorem used_4 {g : Geo} {L : Nat → Pl} {n : Nat} (hr : rightB g = true) (h : fineB g L n = false) : usedE g L n = 4 := by
  unfold usedE
  rw [if_neg (by rw [hr]; simp), if_neg (by rw [h]; simp)]
theorem used_0 {g : Geo} {L : Nat → Pl} {n : Nat} (hr : rightB g = true) (h : fineB g L n = true) : usedE g L n = 0 := by
  unfold usedE
  rw [if_neg (by rw [hr]; simp), if_pos h]
set_option maxRecDepth 100000 in
set_option maxHeartbeats 4000000 in
theorem used8 (g : Geo) (L : Nat → Pl) (A : Option Addr) (n c : Nat) (w : World) (hn : n ≤ 1000000) (ha : SArr w w.heap.size A n 4 (fun i => encP (L i))) (hA : A = none → n = 0 ∧ c = 0) (hA2 : ∀ a, A = some a → a.spot = none) (hpa : ∀ i, i < n → (L i).a ≤ 9223372036854775807 ∧ -9223372036854775808 ≤ (L i).n ∧ (L i).n ≤ 9223372036854775807) :
    Calls Try.prog 8 #[gv g, .slice A n c] w (UsedPost g L n w) := by
  have HA := Lib.hid ha
  have HNA := Lib.hid hA
  have HNS := Lib.hid hA2
  have HPA := Lib.hid hpa
  clear ha hA hA2 hpa
  by_cases hr : rightB g = true
  rotate_left
  · have h2 : rightB g = false := by simpa using hr
    have HE : Hid (usedE g L n = 2) := Lib.hid (by unfold usedE; rw [if_pos h2])
    clear hr
    go_enter Try.func8, Try.ntmps8
    go_wp2_with fail
    refine (right10f g _ h2).mono ?_
    rintro e w1 ⟨rfl, hb1⟩
    have HB := Lib.hid (((Below.refl w.heap.size w).alloc (Nat.le_refl _) (.cells (gcs g) 23)).trans (hb1.mono (by simp)))
    clear hb1
    go_wp2_with fail
    go_ret2
    exact ⟨.slice none 0 0, ret_e HE.out.symm, fun h => absurd (HE.out.symm.trans h) (by decide), fun _ => rfl, HB.out⟩
  · have hf := fine_right hr
    obtain ⟨S, hS⟩ : ∃ S : Nat, g.S = S := ⟨g.S.toNat, by have := hf.s1; omega⟩
    have hS1 := hf.s1
    have hS2 := hf.s2
    rw [hS] at hS1 hS2
    obtain ⟨i0, hi, hz0, hz1, hz2⟩ := infoParts infoI
    have HS := Lib.hid hS
    have HR := Lib.hid hr
    clear hS hf
    go_enter Try.func8, Try.ntmps8
    go_wp2_with fail
    refine (right10t g _ hr).mono ?_
    rintro e w1 ⟨rfl, hb1⟩
    have B1 := Lib.hid (((Below.refl w.heap.size w).alloc (Nat.le_refl _) (.cells (gcs g) 23)).trans (hb1.mono (by simp)))
    have K1 := Lib.hid ((hb1.block w.heap.size (by simp)).trans (heap_new w (.cells (gcs g) 23)))
    clear hb1 hr
    obtain ⟨e0, e1, e2, e3, e4⟩ := geo_at K1.out
    rw [HS.out] at e1
    go_wp2_with (at_make; refine wpList_make_full _ rfl _ _ 27 rfl w.heap.size 3 i0 (.int .i64 0) 1 Try.underlying27 hi hz0 hz1 _ _ _ _ S rfl rfl (by rfl) (by rfl) (by rw [hz2]; omega) (by unfold maxLen; omega) B1.out.size ?_; intro w2 hown hg)
    rw [cntRow_0 g L S] at hown
    have B2 := Lib.hid (B1.out.grown hg B1.out.size (fun k e => by cases e))
    have K2 := Lib.hid ((hg.block w.heap.size (heap_lt K1.out) (by simp)).trans K1.out)
    have R2 := Lib.hid hown
    obtain ⟨R, hRR⟩ : ∃ R, R = w1.heap.size := ⟨_, rfl⟩
    rw [← hRR] at R2 ⊢
    clear hown hg e0 e1 e2 e3 e4 B1 K1 hRR hi hz0 hz1 hz2
    go_loopw [20] (fun i wr => ∃ k : Nat, k ≤ n ∧ i = .int .i64 k ∧ (∀ j, j < k → okP g (L j) = true) ∧ wr.ownsRow w.heap.size 3 1 (.slice (some ⟨R, 0, none⟩) S S) S (cntRow g L S k) ∧ Below w.heap.size w wr ∧ wr.heap[w.heap.size]? = some (.cells (gcs g) 23 (0, 0))) (fun i _ => n - (intOf i).toNat)
    case atStart => exact ⟨0, Nat.zero_le _, rfl, fun _ h => absurd h (by omega), R2.out, B2.out, K2.out⟩
    case round =>
      clear R2 B2 K2
      obtain ⟨k, hk, rfl, hok, hrow, hbw, hgeo⟩ := hrel
      have HOK := Lib.hid hok
      have HRW := Lib.hid hrow
      have HB := Lib.hid hbw
      have HG := Lib.hid hgeo
      clear hok hrow hbw hgeo
      by_cases hlt : k < n
      · obtain ⟨b, off, rfl, hb, hc⟩ := (HA.out.below HB.out (Nat.le_refl _)) (by omega)
        obtain ⟨c0, c1, c2, c3⟩ := sarr4_at hc hlt
        have hp1 := HPA.out k hlt
        obtain ⟨p, hp⟩ : ∃ p, p = L k := ⟨_, rfl⟩
        rw [← hp] at c0 c1 c2 c3 hp1
        have HP := Lib.hid hp
        obtain ⟨hp1, hp2, hp3⟩ := hp1
        obtain ⟨g0, g1, g2, g3, g4⟩ := geo_at HG.out
        have hsz := heap_lt HG.out
        clear hc hp
        go_wp2_with fail
        obtain ⟨x, y, hxy⟩ : ∃ x y, inV g p.a = (x, y) := ⟨_, _, rfl⟩
        have hin := in14 g p.a (wr.alloc (.cells #[.int .i64 p.a, .int .i64 p.n, .int .i64 p.u, .int .i64 p.r] 42)) hp1
        rw [hxy] at hin
        dsimp only at hin
        have HXY := Lib.hid hxy
        clear hxy
        refine hin.mono ?_
        clear hin
        rintro e w3 ⟨rfl, hb3⟩
        obtain ⟨b8, hb8⟩ : ∃ b8, b8 = wr.heap.size := ⟨_, rfl⟩
        rw [← hb8]
        have BA : Below wr.heap.size wr (wr.alloc (.cells #[.int .i64 p.a, .int .i64 p.n, .int .i64 p.u, .int .i64 p.r] 42)) := (Below.refl _ _).alloc (Nat.le_refl _) _
        have hb4 : Below wr.heap.size wr w3 := BA.trans (hb3.mono BA.size)
        have P3 := Lib.hid ((hb3.block b8 (by simp [hb8])).trans (heap_new_at (w := wr) (.cells #[.int .i64 p.a, .int .i64 p.n, .int .i64 p.u, .int .i64 p.r] 42) hb8))
        have G3 := Lib.hid ((hb4.block w.heap.size hsz).trans HG.out)
        have B3 := Lib.hid (HB.out.trans (hb4.mono HB.out.size))
        have R3 := Lib.hid ((Keeps.fresh (S := fun _ => False) hb4).row HRW.out (fun _ _ h => h))
        have HNE : Hid (w.heap.size ≠ b8) := Lib.hid (by omega)
        clear hb3 hb4 BA g0 g1 g2 g3 g4 c0 c1 c2 c3 hsz hb8 HRW HG HB
        obtain ⟨q0, q1, q2, q3⟩ := box4 P3.out
        obtain ⟨g0, g1, g2, g3, g4⟩ := geo_at G3.out
        cases y with
        | false =>
          have HE : Hid (usedE g L n = 4) := Lib.hid (used_4 HR.out (no_fine hlt (by rw [← HP.out]; unfold okP; rw [HXY.out]; rfl)))
          go_wp2_with fail
          go_quiet (fail)
          go_wp2_with fail
          go_ret2
          exact ⟨.slice none 0 0, ret_e HE.out.symm, fun h => absurd (HE.out.symm.trans h) (by decide), fun _ => rfl, below_drewN B3.out _⟩
        | true =>
          by_cases h1 : 1 ≤ p.n
          rotate_left
          · have HE : Hid (usedE g L n = 4) := Lib.hid (used_4 HR.out (no_fine hlt (by rw [← HP.out]; unfold okP; rw [decide_eq_false h1]; simp)))
            have t1 : decide (p.n < 1) = true := by simp; omega
            go_wp2_with fail
            go_quiet (fail)
            go_wp2_with fail
            go_ret2
            exact ⟨.slice none 0 0, ret_e HE.out.symm, fun h => absurd (HE.out.symm.trans h) (by decide), fun _ => rfl, below_drewN B3.out _⟩
          · obtain ⟨kk, rfl, hkS, ha0, ha1, hz0, hz1⟩ := in_true HR.out HXY.out
            obtain ⟨z, hz⟩ : ∃ z, z = segV g kk := ⟨_, rfl⟩
            rw [← hz] at hz0 hz1
            have hseg := fun W => seg15 g kk W
            rw [← hz] at hseg
            have HZ := Lib.hid hz
            have hf := fine_right HR.out
            have hg1 : 0 ≤ g.G := by have := hf.g1; have := hf.u1; omega
            have hg2 : g.G ≤ 1024 := hf.g2
            have hw1 : IntKind.i64.wrap (z + g.G) = z + g.G := IntWalk.i64_in _ (by omega)
            have hw2 : IntKind.i64.wrap (z + g.G - p.a) = z + g.G - p.a := IntWalk.i64_in _ (by omega)
            have HSEG := Lib.hid hseg
            rw [HS.out] at hkS
            clear hf hz hseg
            by_cases h2 : p.n ≤ z + g.G - p.a
            rotate_left
            · have HE : Hid (usedE g L n = 4) := Lib.hid (used_4 HR.out (no_fine hlt (by rw [← HP.out]; unfold okP; rw [HXY.out]; dsimp only; rw [← HZ.out, decide_eq_false h2]; simp)))
              have t1 : decide (p.n < 1) = false := by simp; omega
              have t2 : decide (z + g.G - p.a < p.n) = true := by simp; omega
              go_wp2_with fail
              go_region_held3 (fun w' => w'.cell? ⟨b8, 0, none⟩ = some (.int .i64 p.a) ∧ w'.cell? ⟨b8, 1, none⟩ = some (.int .i64 p.n) ∧ w'.cell? ⟨w.heap.size, 0, none⟩ = some (.int .i64 g.V) ∧ w'.cell? ⟨w.heap.size, 1, none⟩ = some (.int .i64 g.S) ∧ w'.cell? ⟨w.heap.size, 2, none⟩ = some (.int .i64 g.G) ∧ w'.cell? ⟨w.heap.size, 3, none⟩ = some (.int .i64 g.U) ∧ w'.cell? ⟨w.heap.size, 4, none⟩ = some (.int .i64 g.J)) (go_keep)
                (first | (go_at_call 19; refine (HSEG.out _).mono ?_; rintro e w4 ⟨rfl, hb4⟩; obtain ⟨r0, r1, r2, r3⟩ := box4 ((hb4.block b8 (heap_lt P3.out)).trans P3.out); obtain ⟨g0, g1, g2, g3, g4⟩ := geo_at ((hb4.block w.heap.size (heap_lt G3.out)).trans G3.out)))
              go_wp2_with fail
              go_ret2
              exact ⟨.slice none 0 0, ret_e HE.out.symm, fun h => absurd (HE.out.symm.trans h) (by decide), fun _ => rfl, (below_drewN B3.out _).trans (hb4.mono B3.out.size)⟩
            · have hok1 : okP g p = true := by
                unfold okP; rw [HXY.out]; dsimp only; rw [← HZ.out, decide_eq_true h1, decide_eq_true h2]; rfl
              have HOK1 : Hid (∀ j, j < k + 1 → okP g (L j) = true) := Lib.hid (fun j hj => by
                rcases Nat.lt_or_ge j k with h | h
                · exact HOK.out j h
                · obtain rfl : j = k := by omega
                  rw [← HP.out]; exact hok1)
              have hcb := cnt_bd HR.out kk k HOK.out
              have hpb := ok_bd HR.out hok1
              have hpn : p.n ≤ 1024 := by omega
              obtain ⟨q, hq⟩ : ∃ q, q = cntP g L kk k := ⟨_, rfl⟩
              rw [← hq] at hcb
              have HQ := Lib.hid hq
              obtain ⟨hcb0, hcb1⟩ := hcb
              have t1 : decide (p.n < 1) = false := by simp; omega
              have t2 : decide (z + g.G - p.a < p.n) = false := by simp; omega
              clear hok1 hpb hq
              go_wp2_with fail
              go_region_held3 (fun w' => w'.cell? ⟨b8, 0, none⟩ = some (.int .i64 p.a) ∧ w'.cell? ⟨b8, 1, none⟩ = some (.int .i64 p.n) ∧ w'.cell? ⟨w.heap.size, 0, none⟩ = some (.int .i64 g.V) ∧ w'.cell? ⟨w.heap.size, 1, none⟩ = some (.int .i64 g.S) ∧ w'.cell? ⟨w.heap.size, 2, none⟩ = some (.int .i64 g.G) ∧ w'.cell? ⟨w.heap.size, 3, none⟩ = some (.int .i64 g.U) ∧ w'.cell? ⟨w.heap.size, 4, none⟩ = some (.int .i64 g.J)) (go_keep)
                (first | (go_at_call 19; refine (HSEG.out _).mono ?_; rintro e w4 ⟨rfl, hb4⟩; obtain ⟨r0, r1, r2, r3⟩ := box4 ((hb4.block b8 (heap_lt P3.out)).trans P3.out); obtain ⟨g0, g1, g2, g3, g4⟩ := geo_at ((hb4.block w.heap.size (heap_lt G3.out)).trans G3.out)))
              have B4 := Lib.hid ((below_drewN B3.out 1).trans (hb4.mono B3.out.size))
              have R4 := Lib.hid ((Keeps.fresh (S := fun _ => False) hb4).row ((Keeps.drewN (fun _ => False) w3 1).row R3.out (fun _ _ h => h)) (fun _ _ h => h))
              have G4 := Lib.hid ((hb4.block w.heap.size (heap_lt G3.out)).trans G3.out)
              have HRL := Lib.hid (row_lt R4.out (k := R) rfl)
              have rc := (R4.out.cellAt kk (by omega)).trans (cntRow_at (by omega))
              have rf := R4.out.frozenAt kk
              rw [← HQ.out] at rc
              have j1 : (0 : Int) ≤ kk := by omega
              have hw3 : IntKind.i64.wrap (q + p.n) = q + p.n := IntWalk.i64_in _ (by omega)
              clear hb4 B3 R3 G3 hw1 hw2 t1 t2 g0 g1 g2 g3 g4 HSEG P3
              go_wp2_with fail
              go_region
              go_wp2_with fail
              go_roundw
              case rel =>
                have hs := R4.out.stored kk (.int .i64 (q + p.n))
                rw [HQ.out, HP.out, cntRow_s (by omega) (by rw [← HP.out, HXY.out])] at hs
                have hne : R ≠ w.heap.size := fun e => rows_neG R4.out (e ▸ G4.out) (by decide)
                have hst : Keeps (fun x => x = R) w4 (w4.setCell ⟨R, kk, none⟩ (.int .i64 (q + p.n))) := Keeps.setCell (fun x => x = R) _ ⟨R, kk, none⟩ _ rfl
                exact ⟨k + 1, by omega, by go_num, HOK1.out, by rw [HP.out, HQ.out]; exact (Keeps.drew (fun _ => False) _).row hs.1 (fun _ _ h => h), by rw [HP.out]; exact (B4.out.setCell HRL.out.1 _).drew, hst.heap G4.out (fun e => hne e.symm)⟩
              case measure => simp [intOf]; omega
      · obtain rfl : k = n := by omega
        have hcl := clone26 L A k c wr (by omega) ((HA.out.below HB.out (Nat.le_refl _)).more HB.out.size) HNA.out HNS.out
        have hsl := fun (v : Value) (W : World) (h : W.ownsRow wr.heap.size 42 4 v k (flatS (fun i => encP (L i)) k)) => sort27 L v k wr.heap.size W (by omega) h
        have HSL := Lib.hid hsl
        clear hsl
        go_wp2_with fail
        refine hcl.mono ?_
        clear hcl
        rintro e w3 ⟨v, rfl, hv, hb3⟩
        obtain ⟨A3, c3, rfl⟩ := row_shapeS hv
        have V3 := Lib.hid hv
        have B3 := Lib.hid (HB.out.trans (hb3.mono HB.out.size))
        have R3 := Lib.hid ((Keeps.fresh (S := fun _ => False) hb3).row HRW.out (fun _ _ h => h))
        clear hv hb3
        go_wp2_with fail
        refine (HSL.out _ _ V3.out).mono ?_
        rintro e w4 ⟨rfl, d, hp, hs, hd, hkp⟩
        have B4 := Lib.hid (B3.out.trans (hkp.below (B := w.heap.size) (fun x hx => Nat.le_trans HB.out.size (row_lt V3.out hx).1) B3.out.size))
        have R4 := Lib.hid (hkp.row R3.out (fun x hx hx2 => rows_neS R3.out V3.out (by decide) x hx hx2))
        obtain ⟨A4, c4, ev, ha4, _⟩ := srow_arr (F := fun i => encP d[i]!) (fun _ => rfl) hd
        injection ev with ev1 _ _
        rw [← ev1] at ha4
        have HA4 := Lib.hid ha4
        have HF := Lib.hid (sorted_fine HR.out HOK.out hp hs)
        have HO4 := Lib.hid (perm_ok HOK.out hp)
        clear hp hs hd hkp ha4 ev1 HSL V3 B3 R3
        go_wp2_with fail
        go_loopw [68] (fun i wq => ∃ j : Nat, (j : Int) ≤ k ∧ i = .int .i64 j ∧ (∀ x, x < j → d[x]!.a + d[x]!.n ≤ d[x + 1]!.a) ∧ ∃ m, wq = w4.drewN m) (fun i _ => k - (intOf i).toNat)
        case atStart => exact ⟨0, by omega, rfl, fun _ h => absurd h (by omega), 0, rfl⟩
        case round =>
          obtain ⟨j, hj, rfl, hx, m, rfl⟩ := hrel
          have HX := Lib.hid hx
          clear hx
          by_cases hlt : (j : Int) < (k : Int) - 1
          · obtain ⟨b, off, rfl, hb, hc⟩ := HA4.out (by omega)
            obtain ⟨c0, c1, c2, c3⟩ := sarr4_at (L := fun i => d[i]!) hc (k := j) (by omega)
            obtain ⟨e0, e1, e2, e3⟩ := sarr4_at (L := fun i => d[i]!) hc (k := j + 1) (by omega)
            have hp := ok_bd HR.out (HO4.out j (by omega))
            have hq := ok_bd HR.out (HO4.out (j + 1) (by omega))
            obtain ⟨p, hpe⟩ : ∃ p, p = d[j]! := ⟨_, rfl⟩
            obtain ⟨q, hqe⟩ : ∃ p, p = d[j + 1]! := ⟨_, rfl⟩
            rw [← hpe] at c0 c1 c2 c3 hp
            rw [← hqe] at e0 e1 e2 e3 hq
            have HPQ := Lib.hid (And.intro hpe hqe)
            obtain ⟨hp0, hp1, hp2, hp3⟩ := hp
            obtain ⟨hq0, hq1, hq2, hq3⟩ := hq
            have hf := (fine_right HR.out).g2
            clear hc hpe hqe
            by_cases hs : p.a + p.n ≤ q.a
            · have t1 : decide (q.a < p.a + p.n) = false := by simp; omega
              go_wp2_with fail
              go_quiet (fail)
              go_wp2_with fail
              go_roundw
              case rel => exact ⟨j + 1, by omega, by go_num, fun x hx => by
                rcases Nat.lt_or_ge x j with h | h
                · exact HX.out x h
                · obtain rfl : x = j := by omega
                  rw [← HPQ.out.1, ← HPQ.out.2]; exact hs, _, rfl⟩
              case measure => simp [intOf]; omega
            · have t1 : decide (q.a < p.a + p.n) = true := by simp; omega
              have HE : Hid (usedE g L k = 4) := Lib.hid (used_4 HR.out (by
                rw [Bool.eq_false_iff]
                intro h
                have := (HF.out.2 h) j (by omega)
                rw [← HPQ.out.1, ← HPQ.out.2] at this
                exact hs this))
              go_wp2_with fail
              go_quiet (fail)
              go_wp2_with fail
              go_ret2
              exact ⟨.slice none 0 0, ret_e HE.out.symm, fun h => absurd (HE.out.symm.trans h) (by decide), fun _ => rfl, below_drewN (below_drewN B4.out _) _⟩
          · have HE : Hid (usedE g L k = 0) := Lib.hid (used_0 HR.out (HF.out.1 fun i hi => HX.out i (by omega)))
            have t1 : decide ((j : Int) < (k : Int) - 1) = false := by simp; omega
            go_wp2_with fail
            go_ret2
            refine ⟨.slice (some ⟨R, 0, none⟩) S S, ret_e HE.out.symm, fun _ => ?_, fun h => absurd HE.out h, below_drewN B4.out _⟩
            rw [HS.out]
            exact (Keeps.drewN (fun _ => False) w4 m).row R4.out (fun _ _ h => h)
end Go.Proofs.Ythhmhcfahlnmpaa
