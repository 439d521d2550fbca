/- Layer 25 (op): the program's Put. Printed by genPut.py. -/
import Derived.Test.YthdllbbjajddiaaGreatDoorPu
import Derived.Deep.DeepCutAuto
set_option linter.all false
namespace Go.Proofs.YthdllbbjajddiaaGreatDoor
open Go.RowKit Go.Maps Go.WideMaps
/-- What Put gives. -/
def PutOut (w : World) (o : OpR) (e : Ending) (w' : World) : Prop :=
  Below w.heap.size w w' ∧ ((rightB o = false ∧ e = .returned (.tuple #[.slice none 0 0, .int .i64 2])) ∨ ∃ v, rightB o = true ∧ e = .returned (.tuple #[v, .int .i64 0]) ∧ w'.ownsRow w.heap.size 5 1 v (enc o).length (u8l (enc o)))
theorem sliceK (b o : Nat) (u : World) : (Instr.sliceAt 44 (.pointer (some ⟨b, o, none⟩)) none none none).run Tryz.prog u = .ok (.slice (some ⟨b, o, none⟩) 32 32) u := by kernel_rfl
theorem enc_1 {kd x n s : Int} {I : Nat → ElF} {n1 : Nat} {P : Nat → ElP} {n2 : Nat} (h : kd = 1) : enc (opR kd x n s I n1 P n2) = be 1 kd ++ be 1 n1 ++ (nl I n1).flatMap encF ++ be 1 n2 ++ (pl P n2).flatMap encP := by
  unfold enc opR encRow
  dsimp only
  rw [if_pos h, nl_len, pl_len]
  simp only [List.append_assoc]
theorem enc_2 {kd x n s : Int} {I : Nat → ElF} {n1 : Nat} {P : Nat → ElP} {n2 : Nat} (h : kd = 2) : enc (opR kd x n s I n1 P n2) = be 1 kd ++ (be 2 x ++ be 2 n) := by
  unfold enc opR
  dsimp only
  rw [if_neg (by omega), if_pos h]
theorem enc_3 {kd x n s : Int} {I : Nat → ElF} {n1 : Nat} {P : Nat → ElP} {n2 : Nat} (h1 : kd ≠ 1) (h2 : kd ≠ 2) : enc (opR kd x n s I n1 P n2) = be 1 kd ++ be 4 s := by
  unfold enc opR
  dsimp only
  rw [if_neg h1, if_neg h2]
theorem encF_lenE (I : Nat → ElF) (k : Nat) : ((nl I k).flatMap encF).length = k * 39 := by
  rw [flat_len (s := 39) _ fun f hf => encF_len (nl_ko I k f hf), nl_len]
theorem encP_lenE (P : Nat → ElP) (k : Nat) : ((pl P k).flatMap encP).length = k * 36 := by
  rw [flat_len (s := 36) _ fun f hf => encP_len (pl_ko P k f hf), pl_len]
theorem encF_s (I : Nat → ElF) (k : Nat) : (nl I (k + 1)).flatMap encF = (nl I k).flatMap encF ++ encF (I k).1 := by rw [nl_s, List.flatMap_append]; simp
theorem encP_s (P : Nat → ElP) (k : Nat) : (pl P (k + 1)).flatMap encP = (pl P k).flatMap encP ++ encP (P k).1 := by rw [pl_s, List.flatMap_append]; simp
theorem pu_key (p : ElP) {w : World} {b : Nat} (h : w.rangeAt b 0 (cellsP p)) : w.rangeAt b 1 (u8l p.1.k) := by
  intro j v hj
  have := h (1 + j) v (by
    unfold cellsP puC
    rw [List.getElem?_append_right (by simp), List.length_singleton, Nat.add_sub_cancel_left, List.getElem?_append_left (by exact (List.getElem?_eq_some_iff.1 hj).1)]
    exact hj)
  rwa [Nat.zero_add] at this
theorem right_few {kd x n s : Int} {I : Nat → ElF} {n1 : Nat} {P : Nat → ElP} {n2 : Nat} (h : kd = 1) (hr : rightB (opR kd x n s I n1 P n2) = true) : n1 ≤ 18 ∧ n2 ≤ 18 := by
  rw [right_1 h] at hr
  simp only [Bool.and_eq_true, rowsB, decide_eq_true_eq, nl_len, pl_len] at hr
  omega
set_option maxRecDepth 100000 in
set_option maxHeartbeats 8000000 in
theorem put12 (I : Nat → ElF) (P : Nat → ElP) (kd x n s : Int) (A1 : Option Addr) (n1 c1 : Nat) (A2 : Option Addr) (n2 c2 : Nat) (W : World) (hn1 : n1 ≤ 1000000000000) (hn2 : n2 ≤ 1000000000000) (hkd : 0 ≤ kd ∧ kd < 256)
    (ha1 : SArr W W.heap.size A1 n1 36 fun i => cellsF (I i)) (ha2 : SArr W W.heap.size A2 n2 35 fun i => cellsP (P i)) :
    Calls Tryz.prog 5 #[opV kd x n s A1 n1 c1 A2 n2 c2] W (PutOut W (opR kd x n s I n1 P n2)) := by
  have H1 := Lib.hid ha1
  have H2 := Lib.hid ha2
  have hk1 := hkd.1
  have hk2 := hkd.2
  clear ha1 ha2 hkd
  unfold opV
  go_enter Tryz.func5, Tryz.ntmps5
  go_upto_region 1 with fail
  obtain ⟨w1, hw1⟩ : ∃ w1, w1 = W.alloc (.cells #[.int .u8 kd, .int .i64 x, .int .i64 n, .int .i64 s, .slice A1 n1 c1, .slice A2 n2 c2] 26) := ⟨_, rfl⟩
  have Q1 : Hid (w1.heap[W.heap.size]? = some (.cells #[.int .u8 kd, .int .i64 x, .int .i64 n, .int .i64 s, .slice A1 n1 c1, .slice A2 n2 c2] 26 (0, 0))) := Lib.hid (by rw [hw1]; exact heap_new W _)
  have B1 : Hid (Below W.heap.size W w1) := Lib.hid (by rw [hw1]; exact (Below.refl _ _).alloc (Nat.le_refl _) _)
  rw [← hw1]
  obtain ⟨q0, hq0⟩ : ∃ q, q = W.heap.size := ⟨_, rfl⟩
  rw [← hq0] at Q1 ⊢
  have RA : Hid (w1.rangeAt q0 0 [.int .u8 kd, .int .i64 x, .int .i64 n, .int .i64 s, .slice A1 n1 c1, .slice A2 n2 c2]) := Lib.hid (range_of Q1.out)
  have SZ : Hid ((Tryz.prog.info? 26).map (·.size) = some 6) := Lib.hid (by kernel_rfl)
  clear hw1 hq0
  go_wp2_with (refine wpList_load_midG rfl 26 (.tmp 1) rfl q0 0 rfl [.int .u8 kd, .int .i64 x, .int .i64 n, .int .i64 s, .slice A1 n1 c1, .slice A2 n2 c2] _ RA.out Tryz.underlying26 rfl SZ.out ?_)
  refine (right10 I P kd x n s A1 n1 c1 A2 n2 c2 w1 hn1 hn2 ((H1.out.below B1.out (Nat.le_refl _)).more B1.out.size) ((H2.out.below B1.out (Nat.le_refl _)).more B1.out.size)).mono ?_
  rintro e w2 ⟨rfl, hb⟩
  have Q2 := Lib.hid ((hb.block q0 (heap_lt Q1.out)).trans Q1.out)
  have B2 := Lib.hid (B1.out.trans (hb.mono B1.out.size))
  obtain ⟨R, hR⟩ : ∃ R, R = rightB (opR kd x n s I n1 P n2) := ⟨_, rfl⟩
  rw [← hR]
  have HR := Lib.hid hR
  clear hb hR RA Q1 B1
  cases R with
  | false =>
    go_wp2_with fail
    go_ret2
    exact ⟨B2.out, .inl ⟨HR.out.symm, rfl⟩⟩
  | true =>
    obtain ⟨w3, hw3⟩ : ∃ w3, w3 = w2.alloc (.cells #[.slice none 0 0, .int .i64 0, .int .i8 0] 59) := ⟨_, rfl⟩
    have F3 : Hid (Buf w2.heap.size w2.heap.size [] w3) := Lib.hid (LibA.zero_isBuffer (Nat.le_refl _) (LibA.three_whole (by rw [hw3]; exact heap_new w2 _)))
    have B3 : Hid (Below W.heap.size W w3) := Lib.hid (by rw [hw3]; exact B2.out.alloc B2.out.size _)
    have Q3 : Hid (w3.heap[q0]? = some (.cells #[.int .u8 kd, .int .i64 x, .int .i64 n, .int .i64 s, .slice A1 n1 c1, .slice A2 n2 c2] 26 (0, 0))) := Lib.hid (by rw [hw3]; exact heap_old Q2.out)
    have hw3' := hw3.symm
    obtain ⟨b, hbb⟩ : ∃ b, b = w2.heap.size := ⟨_, rfl⟩
    rw [← hbb] at F3
    have hqb : q0 < b := by rw [hbb]; exact heap_lt Q2.out
    have HWB : Hid (W.heap.size ≤ b) := Lib.hid (by rw [hbb]; exact B2.out.size)
    have hb3 : b ≤ w3.heap.size := Nat.le_of_lt F3.out.lt
    have hbs : w2.heap.size = b := hbb.symm
    clear hw3 hbb
    go_upto_region 4 with fail
    clear hw3' hbs
    have QW : Hid (∀ wr, Below b w3 wr → wr.heap[q0]? = some (.cells #[.int .u8 kd, .int .i64 x, .int .i64 n, .int .i64 s, .slice A1 n1 c1, .slice A2 n2 c2] 26 (0, 0))) := Lib.hid fun wr h => (h.block q0 hqb).trans Q3.out
    have BW : Hid (∀ wr, Below b w3 wr → Below W.heap.size W wr) := Lib.hid fun wr h => B3.out.trans (h.mono HWB.out)
    have d0 : w3.cell? ⟨q0, 0, none⟩ = some (.int .u8 kd) := block_cell Q3.out 0 _ rfl
    go_cut [13] from 12 to 16 (fun s13 wx => Buf b b (be 1 kd) wx ∧ Below b w3 wx)
    case first =>
      go_wp2_with fail
      refine (num1 b b 1 kd [] w3 F3.out hb3 (by omega) (by omega) (by simp)).mono ?_
      rintro e w4 ⟨rfl, hbf, hb, ho⟩
      rw [List.nil_append] at hbf
      have F4 := Lib.hid hbf
      have BB4 := Lib.hid hb
      clear hbf hb ho
      go_wp2_with fail
      go_meet
      exact ⟨F4.out, BB4.out⟩
    case rest =>
      clear d0 F3
      obtain ⟨hf4, hb4⟩ := hcut
      have F4 := Lib.hid hf4
      have BB4 := Lib.hid hb4
      clear hf4 hb4
      refine ‹∀ (a : Act) (w_1 : World), Code.wp Tryz.prog _ _ a w_1 → _› _ _ ?_
      apply wp_seq_k
      intro _ _
      go_cut [18] from 17 to 94 (fun s18 wx => Buf b b (enc (opR kd x n s I n1 P n2)) wx ∧ Below b w3 wx)
      case first =>
        obtain ⟨w4, hw4⟩ : ∃ w4, w4 = wc := ⟨_, rfl⟩
        rw [← hw4] at F4 BB4 ⊢
        clear hw4
        have Q4 := Lib.hid (QW.out _ BB4.out)
        have hb4 : b ≤ w4.heap.size := Nat.le_of_lt F4.out.lt
        have d0 : w4.cell? ⟨q0, 0, none⟩ = some (.int .u8 kd) := block_cell Q4.out 0 _ rfl
        have d1 : w4.cell? ⟨q0, 1, none⟩ = some (.int .i64 x) := block_cell Q4.out 1 _ rfl
        have d2 : w4.cell? ⟨q0, 2, none⟩ = some (.int .i64 n) := block_cell Q4.out 2 _ rfl
        have d3 : w4.cell? ⟨q0, 3, none⟩ = some (.int .i64 s) := block_cell Q4.out 3 _ rfl
        have d4 : w4.cell? ⟨q0, 4, none⟩ = some (.slice A1 n1 c1) := block_cell Q4.out 4 _ rfl
        by_cases h1 : kd = 1
        · have t1 : (kd == 1) = true := by simpa using h1
          obtain ⟨f1, f2⟩ := right_few h1 HR.out.symm
          have EN := Lib.hid (enc_1 (kd := kd) (x := x) (n := n) (s := s) (I := I) (n1 := n1) (P := P) (n2 := n2) h1)
          clear h1
          go_wp2_with fail
          clear d0 d1 d2 d3 d4
          refine (num1 b b 1 n1 (be 1 kd) w4 F4.out hb4 (by omega) (by omega) (by rw [be_len]; omega)).mono ?_
          rintro e w5 ⟨rfl, hbf, hb, ho⟩
          have F5 := Lib.hid hbf
          have BB5 := Lib.hid (BB4.out.trans hb)
          have Q5 := Lib.hid (QW.out _ BB5.out)
          clear hbf hb ho
          have d4 : w5.cell? ⟨q0, 4, none⟩ = some (.slice A1 n1 c1) := block_cell Q5.out 4 _ rfl
          go_wp2_with fail
          clear d4
          go_loopw [33] (fun i wr => ∃ k : Nat, k ≤ n1 ∧ i = .int .i64 k ∧ Buf b b (be 1 kd ++ be 1 n1 ++ (nl I k).flatMap encF) wr ∧ Below b w3 wr) (fun i _ => n1 - (intOf i).toNat)
          case atStart => exact ⟨0, Nat.zero_le _, rfl, by simpa [nl] using F5.out, BB5.out⟩
          case round =>
            clear F4 F5 BB4 BB5 Q4 Q5
            obtain ⟨k, hk, rfl, hbf, hb⟩ := hrel
            have F := Lib.hid hbf
            have BB := Lib.hid hb
            clear hbf hb
            by_cases hlt : k < n1
            · obtain ⟨bb, off, rfl, hb, hc⟩ := (H1.out.below (BW.out _ BB.out) (Nat.le_refl _)) (by omega)
              have HC : Hid (wr.rangeAt bb (off + k * 36) (cellsF (I k))) := Lib.hid (hc k hlt)
              have HSZ := Lib.hid (sizeF (I k))
              have HON := Lib.hid (oneF (I k))
              have ZL : Hid (zF.length = (cellsF (I k)).length) := Lib.hid (by rw [lenF]; rfl)
              have HSK := Lib.hid fun (W : World) (q : Nat) => fr_key (I k) (w := W) (b := q)
              have HPL := Lib.hid fun (W : World) (q : Nat) => fr_place (I k) (w := W) (b := q)
              have HKO := Lib.hid (I k).2.key
              have ES := Lib.hid (encF_s I k)
              have LN := Lib.hid (encF_lenE I k)
              obtain ⟨f, hf⟩ : ∃ f, f = (I k).1 := ⟨_, rfl⟩
              obtain ⟨cs, hcs⟩ : ∃ cs, cs = cellsF (I k) := ⟨_, rfl⟩
              obtain ⟨L, hL⟩ : ∃ L, L = be 1 kd ++ be 1 n1 ++ (nl I k).flatMap encF := ⟨_, rfl⟩
              have LL : L.length ≤ 800000 := by rw [hL]; simp only [List.length_append, be_len, LN.out]; omega
              have ES2 : Hid (be 1 kd ++ be 1 n1 ++ (nl I (k + 1)).flatMap encF = L ++ f.k ++ be 4 f.a ++ be 2 f.n ++ be 1 f.u) := Lib.hid (by
                rw [ES.out, hL, hf]
                unfold encF
                simp only [List.append_assoc])
              rw [← hcs] at HC HSZ HON HSK HPL ZL
              rw [← hf] at HSK HPL HKO
              rw [← hL] at F
              have i1 : (0 : Int) ≤ k := by omega
              have i2 : (k : Int) < n1 := by omega
              clear hc hcs hf hL ES LN
              go_upto_region 12 with (first | (refine wpList_load_midG rfl 53 (.tmp 35) rfl bb (off + k * 36) rfl cs _ HC.out Tryz.underlying53 rfl HSZ.out ?_) | (refine wpList_boxed rfl 53 6 rfl rfl zF (zeroVF _) (.tmp 36) rfl rfl rfl cs rfl rfl HSZ.out ZL.out HON.out ?_; intro x2 hb2 hh2 hs2))
              obtain ⟨g, hg⟩ : ∃ g, g = wr.heap.size := ⟨_, rfl⟩
              rw [← hg] at hh2 ⊢
              have hne : g ≠ b := by have := F.out.lt; omega
              have G2 := Lib.hid hh2
              have F2 := Lib.hid (F.out.old hb2)
              have BB2 := Lib.hid (BB.out.trans (hb2.mono (Nat.le_of_lt F.out.lt)))
              have z2 : b ≤ x2.heap.size := Nat.le_of_lt F2.out.lt
              have RK := Lib.hid (HSK.out x2 g (range_of G2.out))
              clear hb2 hh2 hs2 hg F BB
              have SK := sliceK
              go_wp2_with fail
              refine (wkey33 b b g 0 f.k L x2 F2.out z2 HKO.out RK.out hne (by omega)).mono ?_
              rintro e x3 ⟨rfl, hbf, hb, ho⟩
              have F3 := Lib.hid hbf
              have BB3 := Lib.hid (BB2.out.trans hb)
              have G3 := Lib.hid (ho g _ G2.out (by simpa using hne) (fun c fz e => by cases e))
              clear hbf hb ho
              have e0 := HPL.out x3 g (range_of G3.out) 0 _ rfl
              have e1 := HPL.out x3 g (range_of G3.out) 1 _ rfl
              have e2 := HPL.out x3 g (range_of G3.out) 2 _ rfl
              have e0 : x3.cell? ⟨g, 32, none⟩ = some (.int .i64 f.a) := e0
              clear e1 e2
              have hkl := HKO.out.len
              have z3 : b ≤ x3.heap.size := Nat.le_of_lt F3.out.lt
              go_wp2_with fail
              refine (num1 b b 4 f.a (L ++ f.k) x3 F3.out z3 (by omega) (by omega) (by rw [List.length_append]; omega)).mono ?_
              rintro e x4 ⟨rfl, hbf, hb, ho⟩
              have F4 := Lib.hid hbf
              have BB4 := Lib.hid (BB3.out.trans hb)
              have G4 := Lib.hid (ho g _ G3.out (by simpa using hne) (fun c fz e => by cases e))
              clear hbf hb ho
              have e1 : x4.cell? ⟨g, 33, none⟩ = some (.int .i64 f.n) := HPL.out x4 g (range_of G4.out) 1 _ rfl
              have z4 : b ≤ x4.heap.size := Nat.le_of_lt F4.out.lt
              clear e0
              go_wp2_with fail
              refine (num1 b b 2 f.n (L ++ f.k ++ be 4 f.a) x4 F4.out z4 (by omega) (by omega) (by simp only [List.length_append, be_len]; omega)).mono ?_
              rintro e x5 ⟨rfl, hbf, hb, ho⟩
              have F5 := Lib.hid hbf
              have BB5 := Lib.hid (BB4.out.trans hb)
              have G5 := Lib.hid (ho g _ G4.out (by simpa using hne) (fun c fz e => by cases e))
              clear hbf hb ho
              have e2 : x5.cell? ⟨g, 34, none⟩ = some (.int .i64 f.u) := HPL.out x5 g (range_of G5.out) 2 _ rfl
              have z5 : b ≤ x5.heap.size := Nat.le_of_lt F5.out.lt
              clear e1
              go_wp2_with fail
              refine (num1 b b 1 f.u (L ++ f.k ++ be 4 f.a ++ be 2 f.n) x5 F5.out z5 (by omega) (by omega) (by simp only [List.length_append, be_len]; omega)).mono ?_
              rintro e x6 ⟨rfl, hbf, hb, ho⟩
              have F6 := Lib.hid hbf
              have BB6 := Lib.hid (BB5.out.trans hb)
              have G6 := Lib.hid (ho g _ G5.out (by simpa using hne) (fun c fz e => by cases e))
              clear hbf hb ho
              have F7 := F6.out
              rw [← ES2.out] at F7
              have F8 := Lib.hid F7
              clear F7 e2
              go_wp2_with fail
              go_roundw
              case rel => exact ⟨k + 1, by omega, by go_num, F8.out, BB6.out⟩
              case measure => simp [intOf]; omega
            · obtain rfl : k = n1 := by omega
              have t2 : decide ((k : Int) < k) = false := by simp
              obtain ⟨w6, hw6⟩ : ∃ w6, w6 = wr := ⟨_, rfl⟩
              rw [← hw6] at F BB ⊢
              clear hw6
              have Q6 := Lib.hid (QW.out _ BB.out)
              have z6 : b ≤ w6.heap.size := Nat.le_of_lt F.out.lt
              have d5 : w6.cell? ⟨q0, 5, none⟩ = some (.slice A2 n2 c2) := block_cell Q6.out 5 _ rfl
              have LN := Lib.hid (encF_lenE I k)
              go_wp2_with fail
              clear d5
              refine (num1 b b 1 n2 _ w6 F.out z6 (by omega) (by omega) (by simp only [List.length_append, be_len, LN.out]; omega)).mono ?_
              rintro e w7 ⟨rfl, hbf, hb, ho⟩
              obtain ⟨D, hD⟩ : ∃ D, D = be 1 kd ++ be 1 k ++ (nl I k).flatMap encF ++ be 1 n2 := ⟨_, rfl⟩
              rw [← hD] at hbf EN
              have LD : D.length ≤ 2000 := by rw [hD]; simp only [List.length_append, be_len, LN.out]; omega
              have F7 := Lib.hid hbf
              have BB7 := Lib.hid (BB.out.trans hb)
              have Q7 := Lib.hid (QW.out _ BB7.out)
              clear hbf hb ho hD F BB
              have d5 : w7.cell? ⟨q0, 5, none⟩ = some (.slice A2 n2 c2) := block_cell Q7.out 5 _ rfl
              go_wp2_with fail
              clear d5
              go_loopw [65] (fun i wr => ∃ j : Nat, j ≤ n2 ∧ i = .int .i64 j ∧ Buf b b (D ++ (pl P j).flatMap encP) wr ∧ Below b w3 wr) (fun i _ => n2 - (intOf i).toNat)
              case atStart => exact ⟨0, Nat.zero_le _, rfl, by simpa [pl] using F7.out, BB7.out⟩
              case round =>
                clear F7 BB7 Q7 Q6
                obtain ⟨j, hj, rfl, hbf, hb⟩ := hrel
                have F := Lib.hid hbf
                have BB := Lib.hid hb
                clear hbf hb
                by_cases hlt : j < n2
                · obtain ⟨bb, off, rfl, hb, hc⟩ := (H2.out.below (BW.out _ BB.out) (Nat.le_refl _)) (by omega)
                  have HC : Hid (wr.rangeAt bb (off + j * 35) (cellsP (P j))) := Lib.hid (hc j hlt)
                  have HSZ := Lib.hid (sizeP (P j))
                  have HON := Lib.hid (oneP (P j))
                  have ZL : Hid (zP.length = (cellsP (P j)).length) := Lib.hid (by rw [lenP]; rfl)
                  have HSK := Lib.hid fun (W : World) (q : Nat) => pu_key (P j) (w := W) (b := q)
                  have HCE := Lib.hid fun (W : World) (q : Nat) => pu_cells (P j) (w := W) (b := q)
                  have HKO := Lib.hid (P j).2.key
                  have ES := Lib.hid (encP_s P j)
                  have LN := Lib.hid (encP_lenE P j)
                  obtain ⟨p, hp⟩ : ∃ p, p = (P j).1 := ⟨_, rfl⟩
                  obtain ⟨cs, hcs⟩ : ∃ cs, cs = cellsP (P j) := ⟨_, rfl⟩
                  obtain ⟨L, hL⟩ : ∃ L, L = D ++ (pl P j).flatMap encP := ⟨_, rfl⟩
                  have LL : L.length ≤ 800000 := by rw [hL]; simp only [List.length_append, LN.out]; omega
                  have ES2 : Hid (D ++ (pl P (j + 1)).flatMap encP = L ++ be 2 p.x ++ p.k ++ (be 1 p.o ++ be 1 p.m)) := Lib.hid (by
                    rw [ES.out, hL, hp]
                    unfold encP
                    simp only [List.append_assoc])
                  rw [← hcs] at HC HSZ HON HSK HCE ZL
                  rw [← hp] at HSK HCE HKO
                  rw [← hL] at F
                  have i1 : (0 : Int) ≤ j := by omega
                  have i2 : (j : Int) < n2 := by omega
                  clear hc hcs hp hL ES LN
                  go_upto_region 21 with (first | (refine wpList_load_midG rfl 48 (.tmp 67) rfl bb (off + j * 35) rfl cs _ HC.out Tryz.underlying48 rfl HSZ.out ?_) | (refine wpList_boxed rfl 48 8 rfl rfl zP (zeroVP _) (.tmp 68) rfl rfl rfl cs rfl rfl HSZ.out ZL.out HON.out ?_; intro x2 hb2 hh2 hs2))
                  obtain ⟨g, hg⟩ : ∃ g, g = wr.heap.size := ⟨_, rfl⟩
                  rw [← hg] at hh2 ⊢
                  have hne : g ≠ b := by have := F.out.lt; omega
                  have G2 := Lib.hid hh2
                  have F2 := Lib.hid (F.out.old hb2)
                  have BB2 := Lib.hid (BB.out.trans (hb2.mono (Nat.le_of_lt F.out.lt)))
                  have z2 : b ≤ x2.heap.size := Nat.le_of_lt F2.out.lt
                  clear hb2 hh2 hs2 hg F BB
                  obtain ⟨e0, -, -⟩ := HCE.out x2 g (range_of G2.out)
                  go_wp2_with fail
                  refine (num1 b b 2 p.x L x2 F2.out z2 (by omega) (by omega) (by omega)).mono ?_
                  rintro e x3 ⟨rfl, hbf, hb, ho⟩
                  have F3 := Lib.hid hbf
                  have BB3 := Lib.hid (BB2.out.trans hb)
                  have G3 := Lib.hid (ho g _ G2.out (by simpa using hne) (fun c fz e => by cases e))
                  clear hbf hb ho
                  have RK := Lib.hid (HSK.out x3 g (range_of G3.out))
                  have z3 : b ≤ x3.heap.size := Nat.le_of_lt F3.out.lt
                  have SK := sliceK
                  have hkl := HKO.out.len
                  clear e0
                  go_wp2_with fail
                  refine (wkey33 b b g 1 p.k (L ++ be 2 p.x) x3 F3.out z3 HKO.out RK.out hne (by rw [List.length_append, be_len]; omega)).mono ?_
                  rintro e x4 ⟨rfl, hbf, hb, ho⟩
                  have F4 := Lib.hid hbf
                  have BB4 := Lib.hid (BB3.out.trans hb)
                  have G4 := Lib.hid (ho g _ G3.out (by simpa using hne) (fun c fz e => by cases e))
                  clear hbf hb ho
                  obtain ⟨-, e1, e2⟩ := HCE.out x4 g (range_of G4.out)
                  have z4 : b ≤ x4.heap.size := Nat.le_of_lt F4.out.lt
                  clear SK
                  go_wp2_with fail
                  refine (num2 b b 1 p.o p.m (L ++ be 2 p.x ++ p.k) x4 F4.out z4 (by omega) (by omega) (by simp only [List.length_append, be_len]; omega)).mono ?_
                  rintro e x5 ⟨rfl, hbf, hb, ho⟩
                  have F5 := Lib.hid hbf
                  have BB5 := Lib.hid (BB4.out.trans hb)
                  have G5 := Lib.hid (ho g _ G4.out (by simpa using hne) (fun c fz e => by cases e))
                  clear hbf hb ho
                  have F7 := F5.out
                  rw [← ES2.out] at F7
                  have F8 := Lib.hid F7
                  clear F7 e1 e2
                  go_wp2_with fail
                  go_roundw
                  case rel => exact ⟨j + 1, by omega, by go_num, F8.out, BB5.out⟩
                  case measure => simp [intOf]; omega
                · obtain rfl : j = n2 := by omega
                  have t3 : decide ((j : Int) < j) = false := by simp
                  go_wp2_with fail
                  go_meet
                  exact ⟨by rw [EN.out]; exact F.out, BB.out⟩
        · have t1 : (kd == 1) = false := by simpa using h1
          by_cases h2 : kd = 2
          · have t2 : (kd == 2) = true := by simpa using h2
            have EN := Lib.hid (enc_2 (kd := kd) (x := x) (n := n) (s := s) (I := I) (n1 := n1) (P := P) (n2 := n2) h2)
            clear h1 h2
            go_wp2_with fail
            refine (num2 b b 2 x n (be 1 kd) w4 F4.out hb4 (by omega) (by omega) (by rw [be_len]; omega)).mono ?_
            rintro e w5 ⟨rfl, hbf, hb, ho⟩
            have F5 := Lib.hid hbf
            have BB5 := Lib.hid (BB4.out.trans hb)
            clear hbf hb ho
            go_wp2_with fail
            go_meet
            exact ⟨by rw [EN.out]; exact F5.out, BB5.out⟩
          · have t2 : (kd == 2) = false := by simpa using h2
            have EN := Lib.hid (enc_3 (kd := kd) (x := x) (n := n) (s := s) (I := I) (n1 := n1) (P := P) (n2 := n2) h1 h2)
            clear h1 h2
            go_wp2_with fail
            refine (num1 b b 4 s (be 1 kd) w4 F4.out hb4 (by omega) (by omega) (by rw [be_len]; omega)).mono ?_
            rintro e w5 ⟨rfl, hbf, hb, ho⟩
            have F5 := Lib.hid hbf
            have BB5 := Lib.hid (BB4.out.trans hb)
            clear hbf hb ho
            go_wp2_with fail
            go_meet
            exact ⟨by rw [EN.out]; exact F5.out, BB5.out⟩
      case rest =>
        obtain ⟨hf, hb⟩ := hcut
        have hko : KO (opR kd x n s I n1 P n2) := ⟨nl_ko I n1, pl_ko P n2⟩
        obtain ⟨l1, l2⟩ := enc_len HR.out.symm hko
        obtain ⟨l, hl⟩ : ∃ l, l = enc (opR kd x n s I n1 P n2) := ⟨_, rfl⟩
        rw [← hl] at hf l1 l2
        have HL := Lib.hid hl
        have F := Lib.hid hf
        have BB := Lib.hid hb
        clear hf hb hl hko F4 BB4
        obtain ⟨w8, hw8⟩ : ∃ w8, w8 = wc := ⟨_, rfl⟩
        go_wp2_with fail
        refine (bytes35 b b l _ F.out (by omega)).mono ?_
        rintro e w9 ⟨g, c, rfl, ho, m, rfl⟩
        have HO := Lib.hid ho
        obtain ⟨N, hN⟩ : ∃ N, N = l.length := ⟨_, rfl⟩
        rw [← hN] at HO l1 l2 ⊢
        have HN := Lib.hid hN
        clear ho hN hw8
        go_wp2_with fail
        refine (Any.bytes_Clone_at YthdllbbjajddiaaGreatDoor.laysC ⟨g, 0, none⟩ N c l _ HN.out.symm (by omega) (fun i hi => ?_)).mono ?_
        · have h9 := HO.out.cellAt i (by omega)
          rw [Go.WideShapes.add_plain]
          have e9 : (u8l l)[i]? = some (.int .u8 (l.getD i 0)) := by
            have := HN.out
            rw [u8l, List.getElem?_map, List.getElem?_eq_getElem (by omega), List.getD_eq_getElem?_getD, List.getElem?_eq_getElem (by omega)]; rfl
          rw [e9] at h9
          show wc.cell? ⟨g, 0 + i, none⟩ = _
          rw [Nat.zero_add]
          exact h9
        rintro e w10 ⟨v, rfl, hv, -, hb10⟩
        have BF := Lib.hid (BW.out _ (BB.out.trans ((below_drewN (Below.refl _ _) m).trans (hb10.mono (Nat.le_of_lt F.out.lt)))))
        have HV := Lib.hid (row_more hv (BW.out _ BB.out).size)
        clear hv hb10
        go_wp2_with fail
        go_ret2
        refine ⟨BF.out, .inr ⟨v, HR.out.symm, rfl, ?_⟩⟩
        rw [← HL.out, ← HN.out]
        exact HV.out
end Go.Proofs.YthdllbbjajddiaaGreatDoor
