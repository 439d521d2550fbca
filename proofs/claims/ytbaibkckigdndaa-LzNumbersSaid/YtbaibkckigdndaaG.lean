/- The document's answer for layer 5 (lz): what pieces say. Printed by genG.py. -/
import Derived.Test.YtbaibkckigdndaaF
namespace Go.Proofs.Ytbaibkckigdndaa
open Go.RowKit
/-- Is a piece one? -/
def rightP (p : Pc) : Bool := if p.len = 0 then decide (p.dist = 0) else decide (p.byte = 0) && (decide (3 ≤ p.len) && (decide (p.len ≤ 258) && (decide (1 ≤ p.dist) && decide (p.dist ≤ 32768))))
set_option maxHeartbeats 2000000 in
theorem right27 (p : Pc) (w : World) : Calls Try.prog 27 #[.agg #[.int .u8 p.byte, .int .i64 p.len, .int .i64 p.dist]] w fun e w' => e = .returned (.bool (rightP p)) ∧ Below w.heap.size w w' := by
  obtain ⟨ok, hok⟩ : ∃ ok, ok = rightP p := ⟨_, rfl⟩
  rw [← hok]
  by_cases e0 : p.len = 0
  · have t : (p.len == 0) = true := by simp; omega
    by_cases e1 : p.dist = 0
    · have s : (p.dist == 0) = true := by simp; omega
      have hf : ok = true := by rw [hok, rightP, if_pos e0]; simp [e1]
      subst hf
      clear hok e0 e1
      go_enter Try.func27, Try.ntmps27
      go_wp2_with fail
      go_ret
      exact ⟨rfl, (Below.refl _ _).alloc (Nat.le_refl _) _⟩
    · have s : (p.dist == 0) = false := by simp; omega
      have hf : ok = false := by rw [hok, rightP, if_pos e0]; simp [e1]
      subst hf
      clear hok e0 e1
      go_enter Try.func27, Try.ntmps27
      go_wp2_with fail
      go_ret
      exact ⟨rfl, (Below.refl _ _).alloc (Nat.le_refl _) _⟩
  · have t0 : (p.len == 0) = false := by simp; omega
    by_cases e1 : p.byte = 0
    rotate_left
    · have t : (p.byte == 0) = false := by simp; omega
      have hf : ok = false := by rw [hok, rightP, if_neg e0]; simp; omega
      subst hf
      clear hok e0 e1
      go_enter Try.func27, Try.ntmps27
      go_wp2_with fail
      go_ret
      exact ⟨rfl, (Below.refl _ _).alloc (Nat.le_refl _) _⟩
    by_cases e2 : 3 ≤ p.len
    rotate_left
    · have t : decide (3 ≤ p.len) = false := by simp; omega
      have s0 : (p.byte == 0) = true := by simp; omega
      have hf : ok = false := by rw [hok, rightP, if_neg e0]; simp; omega
      subst hf
      clear hok e0 e1 e2
      go_enter Try.func27, Try.ntmps27
      go_wp2_with fail
      go_ret
      exact ⟨rfl, (Below.refl _ _).alloc (Nat.le_refl _) _⟩
    by_cases e3 : p.len ≤ 258
    rotate_left
    · have t : decide (p.len ≤ 258) = false := by simp; omega
      have s0 : (p.byte == 0) = true := by simp; omega
      have s1 : decide (3 ≤ p.len) = true := by simp; omega
      have hf : ok = false := by rw [hok, rightP, if_neg e0]; simp; omega
      subst hf
      clear hok e0 e1 e2 e3
      go_enter Try.func27, Try.ntmps27
      go_wp2_with fail
      go_ret
      exact ⟨rfl, (Below.refl _ _).alloc (Nat.le_refl _) _⟩
    by_cases e4 : 1 ≤ p.dist
    rotate_left
    · have t : decide (1 ≤ p.dist) = false := by simp; omega
      have s0 : (p.byte == 0) = true := by simp; omega
      have s1 : decide (3 ≤ p.len) = true := by simp; omega
      have s2 : decide (p.len ≤ 258) = true := by simp; omega
      have hf : ok = false := by rw [hok, rightP, if_neg e0]; simp; omega
      subst hf
      clear hok e0 e1 e2 e3 e4
      go_enter Try.func27, Try.ntmps27
      go_wp2_with fail
      go_ret
      exact ⟨rfl, (Below.refl _ _).alloc (Nat.le_refl _) _⟩
    by_cases e5 : p.dist ≤ 32768
    rotate_left
    · have t : decide (p.dist ≤ 32768) = false := by simp; omega
      have s0 : (p.byte == 0) = true := by simp; omega
      have s1 : decide (3 ≤ p.len) = true := by simp; omega
      have s2 : decide (p.len ≤ 258) = true := by simp; omega
      have s3 : decide (1 ≤ p.dist) = true := by simp; omega
      have hf : ok = false := by rw [hok, rightP, if_neg e0]; simp; omega
      subst hf
      clear hok e0 e1 e2 e3 e4 e5
      go_enter Try.func27, Try.ntmps27
      go_wp2_with fail
      go_ret
      exact ⟨rfl, (Below.refl _ _).alloc (Nat.le_refl _) _⟩
    have s0 : (p.byte == 0) = true := by simp; omega
    have s1 : decide (3 ≤ p.len) = true := by simp; omega
    have s2 : decide (p.len ≤ 258) = true := by simp; omega
    have s3 : decide (1 ≤ p.dist) = true := by simp; omega
    have s4 : decide (p.dist ≤ 32768) = true := by simp; omega
    have hf : ok = true := by rw [hok, rightP, if_neg e0]; simp; omega
    subst hf
    clear hok e0 e1 e2 e3 e4 e5
    go_enter Try.func27, Try.ntmps27
    go_wp2_with fail
    go_ret
    exact ⟨rfl, (Below.refl _ _).alloc (Nat.le_refl _) _⟩
theorem Ex.go {W w w' : World} {v : Value} {out : List Int} {q : Nat} {p : Pc} (h : Ex W w v out q p) (hb : Below w.heap.size w w') : Ex W w' v out q p :=
  ⟨(Keeps.fresh (S := fun _ => False) hb).row h.row (fun _ _ h => h), (hb.block q (heap_lt h.box)).trans h.box, h.below.trans (hb.mono h.below.size)⟩
set_option maxRecDepth 100000 in
set_option maxHeartbeats 8000000 in
theorem expand11 (P : Nat → Pc) (A : Option Addr) (n c : Nat) (W : World) (hn : n ≤ 17592186044400) (hP : ∀ k, k < n → (P k).len ≤ 9223372036854775807) (ha : SArr W W.heap.size A n 3 (pcsF P)) :
    Calls Try.prog 11 #[.slice A n c] W (ExpPost W (expP P n)) := by
  obtain ⟨i0, hi, hz0, hz1, hz2⟩ := infoParts info5
  have HA := Lib.hid ha
  have HPB := Lib.hid hP
  clear ha hP
  go_enter Try.func11, Try.ntmps11
  go_wp2_with fail
  go_loopw [4, 5] (fun v0 i wr => ∃ (k : Nat) (v : Value) (out : List Int), v = v0 ∧ k ≤ n ∧ i = .int .i64 k ∧ expP P k = some out ∧ wr.ownsRow W.heap.size 5 1 v out.length (bv out) ∧ Below W.heap.size W wr) (fun _ i _ => n - (intOf i).toNat)
  case atStart => exact ⟨0, _, [], rfl, Nat.zero_le _, rfl, rfl, ⟨rfl, .inl ⟨rfl, rfl⟩⟩, Below.refl _ _⟩
  case round =>
    obtain ⟨k, v, out, rfl, hk, rfl, hex, hrow, hbw⟩ := hrel
    have HEX := Lib.hid hex
    have HR := Lib.hid hrow
    have HB := Lib.hid hbw
    have hol := expP_len hex
    obtain ⟨Av, cv, rfl⟩ := row_slice hrow
    clear hex hrow hbw
    by_cases hlt : k < n
    · obtain ⟨b, off, rfl, hb, hc⟩ := HA.out (by omega)
      have hck : ∀ j u, (P k).cells[j]? = some u → wr.cell? ⟨b, off + k * 3 + j, none⟩ = some u := fun j u hu => (HB.out.cell (p := ⟨b, off + k * 3 + j, none⟩) hb).trans (hc k hlt j u hu)
      have hpb := HPB.out k hlt
      obtain ⟨p, hp⟩ : ∃ p, p = P k := ⟨_, rfl⟩
      rw [← hp] at hck hpb
      have d0 : wr.cell? ⟨b, off + k * 3, none⟩ = some (.int .u8 p.byte) := hck 0 _ rfl
      have d1 : wr.cell? ⟨b, off + k * 3 + 1, none⟩ = some (.int .i64 p.len) := hck 1 _ rfl
      have d2 : wr.cell? ⟨b, off + k * 3 + 2, none⟩ = some (.int .i64 p.dist) := hck 2 _ rfl
      have HPK := Lib.hid hp
      clear hck hc hp
      have i1 : (k : Int) < n := by omega
      go_upto_region 6 with fail
      have EX0 := Lib.hid (Ex.new (p := p) HR.out HB.out)
      generalize wr.heap.size = q at EX0 ⊢
      generalize wr.alloc (.cells #[.int .u8 p.byte, .int .i64 p.len, .int .i64 p.dist] 35) = w2 at EX0 ⊢
      obtain ⟨c1, c2, c3⟩ := EX0.out.cells
      clear d0 d1 d2
      go_wp2_with fail
      refine (right27 p _).mono ?_
      rintro e w3 ⟨rfl, hb3⟩
      have EX := Lib.hid (EX0.out.go hb3)
      clear c1 c2 c3 EX0 hb3
      obtain ⟨c1, c2, c3⟩ := EX.out.cells
      obtain ⟨ok, hok⟩ : ∃ ok, ok = rightP p := ⟨_, rfl⟩
      rw [← hok]
      cases ok
      · have HN : Hid (expP P n = none) := Lib.hid (expP_none (k := k + 1) (by
          have hno : ¬ (p.len = 0 ∧ p.dist = 0) := fun h => by simp [rightP, h] at hok
          have hno2 : okM p out.length = false := by
            cases e : okM p out.length
            · rfl
            · simp only [okM, Bool.and_eq_true, decide_eq_true_eq] at e
              simp [rightP, show ¬ p.len = 0 by omega] at hok
              omega
          rw [expP, HEX.out]; show exp1 out (P k) = none; rw [← HPK.out, exp1, if_neg hno, hno2]; rfl) n hlt)
        clear hok
        go_wp2_with fail
        go_ret2
        exact .inl ⟨HN.out, rfl, EX.out.below⟩
      · by_cases ea : p.len = 0 ∧ p.dist = 0
        · obtain ⟨ea1, ea2⟩ := ea
          have EA := Lib.hid (And.intro ea1 ea2)
          have s0 : decide ((out.length : Int) < p.dist) = false := by simp; omega
          have s1 : (p.len == 0) = true := by simp; omega
          have s3 : decide (0 < p.len) = false := by simp; omega
          have s5 : max p.len 1 = 1 := by omega
          by_cases e6 : 65536 < out.length + 1
          · have HN : Hid (expP P n = none) := Lib.hid (expP_none (k := k + 1) (by rw [expP, HEX.out]; show exp1 out (P k) = none; rw [← HPK.out, exp1, if_pos EA.out, if_pos e6]) n hlt)
            have s4 : decide ((65536 : Int) < (out.length : Int) + 1) = true := by simp; omega
            clear ea1 ea2 e6 hok
            go_wp2_with fail
            go_ret2
            exact .inl ⟨HN.out, rfl, EX.out.below⟩
          · have HN : Hid (expP P (k + 1) = some (out ++ [p.byte])) := Lib.hid (by rw [expP, HEX.out]; show exp1 out (P k) = _; rw [← HPK.out, exp1, if_pos EA.out, if_neg e6])
            have s4 : decide ((65536 : Int) < (out.length : Int) + 1) = false := by simp; omega
            clear ea1 ea2 e6 hok
            go_upto_region 10 with (at_builtin; refine wpList_append_own _ rfl _ _ 25 rfl W.heap.size 5 i0 (.int .u8 0) 1 1 Try.underlying25 hi hz0 hz1 hz2 rfl (by decide) _ _ _ rfl (EX.out.row.alloc _) ⟨w3.heap.size, 0, none⟩ 1 1 [.int .u8 p.byte] rfl rfl (cell_one_new _ _ _) (by simp [Value.oneCell']) (by unfold maxLen; omega) (by omega) (by simp; exact Nat.le_trans EX.out.below.size (Nat.le_succ _)) ?_; intro v' w4 hown hgr _)
            have EX2 := Lib.hid (EX.out.append hown hgr)
            obtain ⟨A3, c3v, rfl⟩ := row_slice hown
            obtain ⟨L2, hL2⟩ : ∃ L2, L2 = out.length + 1 := ⟨_, rfl⟩
            rw [← hL2]
            have HL2 := Lib.hid hL2
            clear hown hgr c1 c2 c3 hL2
            obtain ⟨c1, c2, c3⟩ := EX2.out.cells
            go_wp2_with fail
            refine wp_loop_rounds 1 ?_
            rw [rounds_succ]
            go_wp2_with fail
            go_roundw
            case rel => rw [HL2.out]; exact ⟨k + 1, _, out ++ [p.byte], rfl, by omega, by go_num, HN.out, EX2.out.row, EX2.out.below⟩
            case measure => simp [intOf]; omega
        · have hr := hok
          have h0 : ¬ p.len = 0 := fun h => ea ⟨h, by simpa [rightP, h] using hr.symm⟩
          simp only [rightP, if_neg h0, eq_comm (a := true), Bool.and_eq_true, decide_eq_true_eq] at hr
          have s1 : (p.len == 0) = false := by simp; omega
          by_cases e5 : (out.length : Int) < p.dist
          · have HN : Hid (expP P n = none) := Lib.hid (expP_none (k := k + 1) (by
              have hno2 : okM p out.length = false := by simp [okM]; omega
              rw [expP, HEX.out]; show exp1 out (P k) = none; rw [← HPK.out, exp1, if_neg ea, hno2]; rfl) n hlt)
            have s0 : decide ((out.length : Int) < p.dist) = true := by simp; omega
            clear ea hok hr h0 e5
            go_wp2_with fail
            go_ret2
            exact .inl ⟨HN.out, rfl, EX.out.below⟩
          · have hok2 : okM p out.length = true := by simp [okM]; omega
            obtain ⟨ln, hln⟩ : ∃ ln : Nat, p.len = ln := ⟨p.len.toNat, by omega⟩
            obtain ⟨d, hd⟩ : ∃ d : Nat, p.dist = d := ⟨p.dist.toNat, by omega⟩
            have l1 : 3 ≤ ln := by omega
            have l2 : ln ≤ 258 := by omega
            have l3 : 1 ≤ d := by omega
            have l4 : d ≤ out.length := by omega
            have HN : Hid (expP P (k + 1) = if 65536 < out.length + ln then none else some (cpy out d ln)) := Lib.hid (by
              rw [expP, HEX.out]; show exp1 out (P k) = _
              rw [← HPK.out, exp1, if_neg ea, hok2, if_pos rfl, hln, hd]; rfl)
            have HL := Lib.hid (And.intro hln hd)
            have s6 : ((ln : Int) == 0) = false := by simp; omega
            have s0 : decide (out.length < d) = false := by simp; omega
            have s5 : max (ln : Int) 1 = ln := by omega
            rw [hln] at c2
            rw [hd] at c3
            clear s1 ea hok hok2 hln hd hr h0 e5 hpb
            by_cases e6 : 65536 < out.length + ln
            · have HN2 : Hid (expP P n = none) := Lib.hid (expP_none (k := k + 1) (by rw [HN.out, if_pos e6]) n hlt)
              have s4 : decide ((65536 : Int) < (out.length : Int) + ln) = true := by simp; omega
              clear e6
              go_wp2_with fail
              go_ret2
              exact .inl ⟨HN2.out, rfl, EX.out.below⟩
            · have HN2 : Hid (expP P (k + 1) = some (cpy out d ln)) := Lib.hid (by rw [HN.out, if_neg e6])
              have s4 : decide ((65536 : Int) < (out.length : Int) + ln) = false := by simp; omega
              have e7 : out.length + ln ≤ 65536 := by omega
              clear e6
              go_wp2_with fail
              clear c1 c2 c3
              go_loopw [4, 7] (fun v0 y w' => ∃ (j : Nat) (v : Value), v = v0 ∧ j ≤ ln ∧ y = .int .i64 j ∧ Ex W w' v (cpy out d j) q p) (fun _ y _ => ln - (intOf y).toNat)
              case atStart => exact ⟨0, _, rfl, Nat.zero_le _, rfl, EX.out⟩
              case round =>
                clear EX
                obtain ⟨j, v4, rfl, hj, rfl, h4⟩ := hrel
                have E4 := Lib.hid h4
                have hcl := cpy_len out d j
                obtain ⟨g, c4v, rfl, hgb, hgz⟩ := h4.row.form (by omega)
                obtain ⟨c1, c2, c3⟩ := h4.cells
                rw [HL.out.1] at c2
                rw [HL.out.2] at c3
                obtain ⟨L, hL⟩ : ∃ L, L = (cpy out d j).length := ⟨_, rfl⟩
                have HRW := Lib.hid h4.row
                rw [← hL] at HRW hcl ⊢
                have hcl1 : L ≤ out.length + j := by omega
                have hcl2 : out.length + j ≤ L := by omega
                clear hcl
                by_cases hjl : j < ln
                · obtain ⟨z, hz⟩ : ∃ z : Nat, (L : Int) - d = z := ⟨L - d, by omega⟩
                  have hzl : z < L := by omega
                  obtain ⟨u, hu⟩ : ∃ u, u = (cpy out d j).getD z 0 := ⟨_, rfl⟩
                  have e0 : wr.cell? ⟨g, z, none⟩ = some (.int .u8 u) := by
                    rw [hu]
                    exact (h4.row.cellAt z (by omega)).trans (bv_at _ (by omega))
                  have HU : Hid (cpy out d j ++ [u] = cpy out d (j + 1)) := Lib.hid (by rw [cpy, hu, ← hL, show L - d = z by omega])
                  have HLL := Lib.hid hL
                  have t1 : decide ((j : Int) < ln) = true := by simp; omega
                  clear h4 hu hL
                  go_wp2_with (at_builtin; refine wpList_append_own _ rfl _ _ 25 rfl W.heap.size 5 i0 (.int .u8 0) 1 1 Try.underlying25 hi hz0 hz1 hz2 rfl (by decide) _ _ _ rfl (HRW.out.alloc _) ⟨wr.heap.size, 0, none⟩ 1 1 [.int .u8 u] rfl rfl (cell_one_new _ _ _) (by simp [Value.oneCell']) (by unfold maxLen; omega) (by omega) (by simp; exact Nat.le_trans E4.out.below.size (Nat.le_succ _)) ?_; intro v' w3 hown hgr _)
                  have E5 := Lib.hid (E4.out.append (by rw [← HLL.out]; exact hown) hgr)
                  rw [HU.out] at E5
                  clear hown hgr
                  go_wp2_with fail
                  go_roundw
                  case rel => exact ⟨j + 1, _, rfl, by omega, by go_num, E5.out⟩
                  case measure => simp [intOf]; omega
                · obtain rfl : j = ln := by omega
                  have HLL := Lib.hid hL
                  have t1 : decide ((j : Int) < j) = false := by simp
                  clear h4 hL
                  go_wp2_with fail
                  go_roundw
                  case rel => exact ⟨k + 1, _, cpy out d j, rfl, by omega, by go_num, HN2.out, by rw [← HLL.out]; exact HRW.out, E4.out.below⟩
                  case measure => simp [intOf]; omega
    · obtain rfl : k = n := by omega
      go_wp2_with fail
      go_ret2
      exact .inr ⟨out, _, HEX.out, rfl, HR.out, HB.out⟩
end Go.Proofs.Ytbaibkckigdndaa
