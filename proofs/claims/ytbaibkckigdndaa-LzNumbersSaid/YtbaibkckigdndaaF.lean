/- lz.Expand: what pieces say. -/
import Derived.Test.YtbaibkckigdndaaE
namespace Go.Proofs.Ytbaibkckigdndaa
open Go.RowKit
def bv (l : List Int) : List Value := l.map (Value.int .u8)
theorem bv_len (l : List Int) : (bv l).length = l.length := by simp [bv]
theorem bv_app (l m : List Int) : bv (l ++ m) = bv l ++ bv m := by simp [bv]
theorem bv_at (l : List Int) {i : Nat} (h : i < l.length) : (bv l)[i]? = some (.int .u8 (l.getD i 0)) := by
  simp [bv, h]
theorem info5 : (Try.prog.info? 5).map (fun i => (i.zero, i.size, i.bytes)) = some (some (.int .u8 0), 1, 1) := by kernel_rfl
theorem row_slice {w : World} {base n s : Nat} {e : TypeId} {v : Value} {xs : List Value} (h : w.ownsRow base e s v n xs) : ∃ A cap, v = .slice A n cap := by
  rcases h.2 with ⟨rfl, rfl⟩ | ⟨g, cap, cur, rfl, -⟩
  · exact ⟨none, 0, rfl⟩
  · exact ⟨_, cap, rfl⟩
/-- What lies in memory while bytes are said: the piece at hand in block q. -/
structure Ex (W w : World) (v : Value) (out : List Int) (q : Nat) (p : Pc) : Prop where
  row : w.ownsRow W.heap.size 5 1 v out.length (bv out)
  box : w.heap[q]? = some (.cells #[.int .u8 p.byte, .int .i64 p.len, .int .i64 p.dist] 35 (0, 0))
  below : Below W.heap.size W w
theorem Ex.new {W w : World} {v : Value} {out : List Int} {p : Pc} (h1 : w.ownsRow W.heap.size 5 1 v out.length (bv out)) (h3 : Below W.heap.size W w) : Ex W (w.alloc (.cells #[.int .u8 p.byte, .int .i64 p.len, .int .i64 p.dist] 35)) v out w.heap.size p :=
  ⟨h1.alloc _, heap_new w _, h3.alloc h3.size _⟩
theorem Ex.append {W w w3 : World} {v v' : Value} {out : List Int} {q : Nat} {p : Pc} {o : Obj} {x : Int} (h : Ex W w v out q p) (ho : w3.ownsRow W.heap.size 5 1 v' (out.length + 1) (bv out ++ [.int .u8 x])) (hg : (w.alloc o).grownBy w3 v.ownBlock) : Ex W w3 v' (out ++ [x]) q p := by
  have hk := Keeps.grown (S := fun k => v.ownBlock = some k) hg fun x e => e
  refine ⟨?_, hk.heap (heap_old h.box) (row_ne_cells h.row h.box (by decide)), (h.below.alloc h.below.size o).trans (hk.below (fun k e => (h.row.lt k e).1) (h.below.alloc h.below.size o).size)⟩
  rw [bv_app, List.length_append]
  exact ho
theorem Ex.cells {W w : World} {v : Value} {out : List Int} {q : Nat} {p : Pc} (h : Ex W w v out q p) : w.cell? ⟨q, 0, none⟩ = some (.int .u8 p.byte) ∧ w.cell? ⟨q, 1, none⟩ = some (.int .i64 p.len) ∧ w.cell? ⟨q, 2, none⟩ = some (.int .i64 p.dist) :=
  ⟨block_cell h.box 0 _ rfl, block_cell h.box 1 _ rfl, block_cell h.box 2 _ rfl⟩
/-- What Expand gives. -/
def ExpPost (W : World) (o : Option (List Int)) (e : Ending) (w' : World) : Prop :=
  (o = none ∧ e = .returned (.tuple #[.slice none 0 0, .bool false]) ∧ Below W.heap.size W w') ∨
    ∃ out v, o = some out ∧ e = .returned (.tuple #[v, .bool true]) ∧ w'.ownsRow W.heap.size 5 1 v out.length (bv out) ∧ Below W.heap.size W w'
set_option maxRecDepth 100000 in
set_option maxHeartbeats 8000000 in
theorem expand10 (P : Nat → Pc) (A : Option Addr) (n c : Nat) (W : World) (hn : n ≤ 17592186044400) (ha : SArr W W.heap.size A n 3 (pcsF P)) :
    Calls Try.prog 10 #[.slice A n c] W (ExpPost W (expP P n)) := by
  obtain ⟨i0, hi, hz0, hz1, hz2⟩ := infoParts info5
  have HA := Lib.hid ha
  clear ha
  go_enter Try.func10, Try.ntmps10
  go_wp2_with fail
  go_loopw [4, 10] (fun v0 i wr => ∃ (k : Nat) (v : Value) (out : List Int), v = v0 ∧ k ≤ n ∧ i = .int .i64 k ∧ expP P k = some out ∧ wr.ownsRow W.heap.size 5 1 v out.length (bv out) ∧ Below W.heap.size W wr) (fun _ i _ => n - (intOf i).toNat)
  case atStart => exact ⟨0, _, [], rfl, Nat.zero_le _, rfl, rfl, ⟨rfl, .inl ⟨rfl, rfl⟩⟩, Below.refl _ _⟩
  case round =>
    obtain ⟨k, v, out, rfl, hk, rfl, hex, hrow, hbw⟩ := hrel
    have HEX := Lib.hid hex
    have HR := Lib.hid hrow
    have HB := Lib.hid hbw
    have hol := expP_len hex
    obtain ⟨Av, cv, rfl⟩ := row_slice hrow
    clear hex hrow hbw
    by_cases hlt : k < n
    · obtain ⟨b, off, rfl, hb, hc⟩ := HA.out (by omega)
      have hck : ∀ j u, (P k).cells[j]? = some u → wr.cell? ⟨b, off + k * 3 + j, none⟩ = some u := fun j u hu => (HB.out.cell (p := ⟨b, off + k * 3 + j, none⟩) hb).trans (hc k hlt j u hu)
      obtain ⟨p, hp⟩ : ∃ p, p = P k := ⟨_, rfl⟩
      rw [← hp] at hck
      have d0 : wr.cell? ⟨b, off + k * 3, none⟩ = some (.int .u8 p.byte) := hck 0 _ rfl
      have d1 : wr.cell? ⟨b, off + k * 3 + 1, none⟩ = some (.int .i64 p.len) := hck 1 _ rfl
      have d2 : wr.cell? ⟨b, off + k * 3 + 2, none⟩ = some (.int .i64 p.dist) := hck 2 _ rfl
      have HPK := Lib.hid hp
      clear hck hc hp
      have i1 : (k : Int) < n := by omega
      go_upto_region 5 with fail
      have EX := Lib.hid (Ex.new (p := p) HR.out HB.out)
      generalize wr.heap.size = q at EX ⊢
      generalize wr.alloc (.cells #[.int .u8 p.byte, .int .i64 p.len, .int .i64 p.dist] 35) = w2 at EX ⊢
      obtain ⟨c1, c2, c3⟩ := EX.out.cells
      obtain ⟨ok, hok⟩ : ∃ ok, ok = okM p out.length := ⟨_, rfl⟩
      have HOK := Lib.hid hok
      clear d0 d1 d2
      go_cut [7] from 14 to 39 (fun s7 w' => s7 = .bool ok ∧ w' = w2)
      case first =>
        by_cases e1 : p.byte = 0
        rotate_left
        · have t : (p.byte == 0) = false := by simp; omega
          have hf : ok = false := by rw [hok]; simp [okM]; omega
          subst hf
          clear hok e1
          go_wp2_with fail
          go_meet
          exact ⟨rfl, rfl⟩
        by_cases e2 : 3 ≤ p.len
        rotate_left
        · have t : decide (3 ≤ p.len) = false := by simp; omega
          have s0 : (p.byte == 0) = true := by simp; omega
          have hf : ok = false := by rw [hok]; simp [okM]; omega
          subst hf
          clear hok e1 e2
          go_wp2_with fail
          go_meet
          exact ⟨rfl, rfl⟩
        by_cases e3 : p.len ≤ 258
        rotate_left
        · have t : decide (p.len ≤ 258) = false := by simp; omega
          have s0 : (p.byte == 0) = true := by simp; omega
          have s1 : decide (3 ≤ p.len) = true := by simp; omega
          have hf : ok = false := by rw [hok]; simp [okM]; omega
          subst hf
          clear hok e1 e2 e3
          go_wp2_with fail
          go_meet
          exact ⟨rfl, rfl⟩
        by_cases e4 : 1 ≤ p.dist
        rotate_left
        · have t : decide (1 ≤ p.dist) = false := by simp; omega
          have s0 : (p.byte == 0) = true := by simp; omega
          have s1 : decide (3 ≤ p.len) = true := by simp; omega
          have s2 : decide (p.len ≤ 258) = true := by simp; omega
          have hf : ok = false := by rw [hok]; simp [okM]; omega
          subst hf
          clear hok e1 e2 e3 e4
          go_wp2_with fail
          go_meet
          exact ⟨rfl, rfl⟩
        by_cases e5 : p.dist ≤ min 32768 (out.length : Int)
        rotate_left
        · have t : decide (p.dist ≤ min 32768 (out.length : Int)) = false := by simp; omega
          have s0 : (p.byte == 0) = true := by simp; omega
          have s1 : decide (3 ≤ p.len) = true := by simp; omega
          have s2 : decide (p.len ≤ 258) = true := by simp; omega
          have s3 : decide (1 ≤ p.dist) = true := by simp; omega
          have hf : ok = false := by rw [hok]; simp [okM]; omega
          subst hf
          clear hok e1 e2 e3 e4 e5
          go_wp2_with fail
          go_meet
          exact ⟨rfl, rfl⟩
        have s0 : (p.byte == 0) = true := by simp; omega
        have s1 : decide (3 ≤ p.len) = true := by simp; omega
        have s2 : decide (p.len ≤ 258) = true := by simp; omega
        have s3 : decide (1 ≤ p.dist) = true := by simp; omega
        have s4 : decide (p.dist ≤ min 32768 (out.length : Int)) = true := by simp; omega
        have hf : ok = true := by rw [hok]; simp [okM]; omega
        subst hf
        clear hok e1 e2 e3 e4 e5
        go_wp2_with fail
        go_meet
        exact ⟨rfl, rfl⟩
      case rest =>
        obtain ⟨rfl, rfl⟩ := hcut
        clear hok
        by_cases ea : p.len = 0 ∧ p.dist = 0
        · obtain ⟨ea1, ea2⟩ := ea
          have EA := Lib.hid (And.intro ea1 ea2)
          have s1 : (p.len == 0) = true := by simp; omega
          have s2 : (p.dist == 0) = true := by simp; omega
          have s3 : decide (0 < p.len) = false := by simp; omega
          by_cases e6 : 65536 < out.length + 1
          · have HN : Hid (expP P n = none) := Lib.hid (expP_none (k := k + 1) (by rw [expP, HEX.out]; show exp1 out (P k) = none; rw [← HPK.out, exp1, if_pos EA.out, if_pos e6]) n hlt)
            have s4 : decide ((65536 : Int) < (out.length + 1 : Nat)) = true := by simp; omega
            clear ea1 ea2 e6
            go_upto_region 10 with (at_builtin; refine wpList_append_own _ rfl _ _ 25 rfl W.heap.size 5 i0 (.int .u8 0) 1 1 Try.underlying25 hi hz0 hz1 hz2 rfl (by decide) _ _ _ rfl (EX.out.row.alloc _) ⟨wc.heap.size, 0, none⟩ 1 1 [.int .u8 p.byte] rfl rfl (cell_one_new _ _ _) (by simp [Value.oneCell']) (by unfold maxLen; omega) (by omega) (by simp; exact Nat.le_trans EX.out.below.size (Nat.le_succ _)) ?_; intro v' w3 hown hgr _)
            have EX2 := Lib.hid (EX.out.append hown hgr)
            obtain ⟨A3, c3v, rfl⟩ := row_slice hown
            obtain ⟨L2, hL2⟩ : ∃ L2, L2 = out.length + 1 := ⟨_, rfl⟩
            rw [← hL2] at s4 ⊢
            have HL2 := Lib.hid hL2
            clear hown hgr c1 c2 c3 hL2
            obtain ⟨c1, c2, c3⟩ := EX2.out.cells
            go_wp2_with fail
            refine wp_loop_rounds 1 ?_
            rw [rounds_succ]
            go_wp2_with fail
            go_ret2
            exact .inl ⟨HN.out, rfl, EX2.out.below⟩
          · have HN : Hid (expP P (k + 1) = some (out ++ [p.byte])) := Lib.hid (by rw [expP, HEX.out]; show exp1 out (P k) = _; rw [← HPK.out, exp1, if_pos EA.out, if_neg e6])
            have s4 : decide ((65536 : Int) < (out.length + 1 : Nat)) = false := by simp; omega
            clear ea1 ea2 e6
            go_upto_region 10 with (at_builtin; refine wpList_append_own _ rfl _ _ 25 rfl W.heap.size 5 i0 (.int .u8 0) 1 1 Try.underlying25 hi hz0 hz1 hz2 rfl (by decide) _ _ _ rfl (EX.out.row.alloc _) ⟨wc.heap.size, 0, none⟩ 1 1 [.int .u8 p.byte] rfl rfl (cell_one_new _ _ _) (by simp [Value.oneCell']) (by unfold maxLen; omega) (by omega) (by simp; exact Nat.le_trans EX.out.below.size (Nat.le_succ _)) ?_; intro v' w3 hown hgr _)
            have EX2 := Lib.hid (EX.out.append hown hgr)
            obtain ⟨A3, c3v, rfl⟩ := row_slice hown
            obtain ⟨L2, hL2⟩ : ∃ L2, L2 = out.length + 1 := ⟨_, rfl⟩
            rw [← hL2] at s4 ⊢
            have HL2 := Lib.hid hL2
            clear hown hgr c1 c2 c3 hL2
            obtain ⟨c1, c2, c3⟩ := EX2.out.cells
            go_wp2_with fail
            refine wp_loop_rounds 1 ?_
            rw [rounds_succ]
            go_wp2_with fail
            go_roundw
            case rel => rw [HL2.out]; exact ⟨k + 1, _, out ++ [p.byte], rfl, by omega, by go_num, HN.out, EX2.out.row, EX2.out.below⟩
            case measure => simp [intOf]; omega
        · cases ok
          · have HN : Hid (expP P n = none) := Lib.hid (expP_none (k := k + 1) (by rw [expP, HEX.out]; show exp1 out (P k) = none; rw [← HPK.out, exp1, if_neg ea, ← HOK.out]; rfl) n hlt)
            by_cases e1 : p.len = 0
            · have s1 : (p.len == 0) = true := by simp; omega
              have s2 : (p.dist == 0) = false := by simp; omega
              clear ea e1
              go_wp2_with fail
              go_ret2
              exact .inl ⟨HN.out, rfl, EX.out.below⟩
            · have s1 : (p.len == 0) = false := by simp; omega
              clear ea e1
              go_wp2_with fail
              go_ret2
              exact .inl ⟨HN.out, rfl, EX.out.below⟩
          · have hok := HOK.out
            simp only [okM, eq_comm (a := true), Bool.and_eq_true, decide_eq_true_eq] at hok
            obtain ⟨ln, hln⟩ : ∃ ln : Nat, p.len = ln := ⟨p.len.toNat, by omega⟩
            obtain ⟨d, hd⟩ : ∃ d : Nat, p.dist = d := ⟨p.dist.toNat, by omega⟩
            have l1 : 3 ≤ ln := by omega
            have l2 : ln ≤ 258 := by omega
            have l3 : 1 ≤ d := by omega
            have l4 : d ≤ out.length := by omega
            have HN : Hid (expP P (k + 1) = if 65536 < out.length + ln then none else some (cpy out d ln)) := Lib.hid (by
              rw [expP, HEX.out]; show exp1 out (P k) = _
              rw [← HPK.out, exp1, if_neg ea, ← HOK.out, if_pos rfl, hln, hd]; rfl)
            have HL := Lib.hid (And.intro hln hd)
            have s1 : ((ln : Int) == 0) = false := by simp; omega
            rw [hln] at c2 ⊢
            rw [hd] at c3 ⊢
            clear ea hok hln hd
            go_wp2_with fail
            clear c1 c2 c3
            go_loopw [4, 59] (fun v0 y w' => ∃ (j : Nat) (v : Value), v = v0 ∧ j ≤ ln ∧ y = .int .i64 j ∧ Ex W w' v (cpy out d j) q p) (fun _ y _ => ln - (intOf y).toNat)
            case atStart => exact ⟨0, _, rfl, Nat.zero_le _, rfl, EX.out⟩
            case round =>
              clear EX
              obtain ⟨j, v4, rfl, hj, rfl, h4⟩ := hrel
              have E4 := Lib.hid h4
              have hcl := cpy_len out d j
              obtain ⟨g, c4v, rfl, hgb, hgz⟩ := h4.row.form (by omega)
              obtain ⟨c1, c2, c3⟩ := h4.cells
              rw [HL.out.1] at c2
              rw [HL.out.2] at c3
              obtain ⟨L, hL⟩ : ∃ L, L = (cpy out d j).length := ⟨_, rfl⟩
              have HRW := Lib.hid h4.row
              rw [← hL] at HRW hcl ⊢
              have hcl1 : L ≤ out.length + j := by omega
              have hcl2 : out.length + j ≤ L := by omega
              clear hcl
              by_cases hjl : j < ln
              · obtain ⟨z, hz⟩ : ∃ z : Nat, (L : Int) - d = z := ⟨L - d, by omega⟩
                have hzl : z < L := by omega
                obtain ⟨u, hu⟩ : ∃ u, u = (cpy out d j).getD z 0 := ⟨_, rfl⟩
                have e0 : wr.cell? ⟨g, z, none⟩ = some (.int .u8 u) := by
                  rw [hu]
                  exact (h4.row.cellAt z (by omega)).trans (bv_at _ (by omega))
                have HU : Hid (cpy out d j ++ [u] = cpy out d (j + 1)) := Lib.hid (by rw [cpy, hu, ← hL, show L - d = z by omega])
                have HLL := Lib.hid hL
                have t1 : decide ((j : Int) < ln) = true := by simp; omega
                clear h4 hu hL
                go_wp2_with (at_builtin; refine wpList_append_own _ rfl _ _ 25 rfl W.heap.size 5 i0 (.int .u8 0) 1 1 Try.underlying25 hi hz0 hz1 hz2 rfl (by decide) _ _ _ rfl (HRW.out.alloc _) ⟨wr.heap.size, 0, none⟩ 1 1 [.int .u8 u] rfl rfl (cell_one_new _ _ _) (by simp [Value.oneCell']) (by unfold maxLen; omega) (by omega) (by simp; exact Nat.le_trans E4.out.below.size (Nat.le_succ _)) ?_; intro v' w3 hown hgr _)
                have E5 := Lib.hid (E4.out.append (by rw [← HLL.out]; exact hown) hgr)
                rw [HU.out] at E5
                clear hown hgr
                go_wp2_with fail
                go_roundw
                case rel => exact ⟨j + 1, _, rfl, by omega, by go_num, E5.out⟩
                case measure => simp [intOf]; omega
              · obtain rfl : j = ln := by omega
                have HLL := Lib.hid hL
                have t1 : decide ((j : Int) < j) = false := by simp
                clear h4 hL
                by_cases e6 : 65536 < out.length + j
                · have HN2 : Hid (expP P n = none) := Lib.hid (expP_none (k := k + 1) (by rw [HN.out, if_pos e6]) n hlt)
                  have s4 : decide ((65536 : Int) < L) = true := by simp; omega
                  clear e6
                  go_wp2_with fail
                  go_ret2
                  exact .inl ⟨HN2.out, rfl, E4.out.below⟩
                · have HN2 : Hid (expP P (k + 1) = some (cpy out d j)) := Lib.hid (by rw [HN.out, if_neg e6])
                  have s4 : decide ((65536 : Int) < L) = false := by simp; omega
                  clear e6
                  go_wp2_with fail
                  go_roundw
                  case rel => exact ⟨k + 1, _, cpy out d j, rfl, by omega, by go_num, HN2.out, by rw [← HLL.out]; exact HRW.out, E4.out.below⟩
                  case measure => simp [intOf]; omega
    · obtain rfl : k = n := by omega
      go_wp2_with fail
      go_ret2
      exact .inr ⟨out, _, HEX.out, rfl, HR.out, HB.out⟩
end Go.Proofs.Ytbaibkckigdndaa
