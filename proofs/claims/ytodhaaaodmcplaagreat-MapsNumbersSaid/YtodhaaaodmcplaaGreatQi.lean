/- The law MapsLives (layer 23): it returns true at every input. Printed by genQi.py. -/
import Derived.Test.YtodhaaaodmcplaaGreatQh
import Derived.Test.YtodhaaaodmcplaaGreatKhI
import Derived.Test.YtodhaaaodmcplaaGreatPhIt
set_option linter.all false
namespace Go.Proofs.YtodhaaaodmcplaaGreat
open Go.RowKit Go.Maps Go.WideMaps
/-- Blocks of other kinds turned leave both as they are. -/
theorem Lv.foot {W w w2 : World} {p mb p2 : Nat} {s s2 : MS} {S : Nat → Prop} (h : Lv W w p mb p2 s s2) (hk : Keeps S w w2) (hS : ∀ k, S k → W.heap.size ≤ k ∧ ∃ cs t, w.heap[k]? = some (.cells cs t (0, 0)) ∧ (t = 75 ∨ t = 3 ∨ t = 35)) : Lv W w2 p mb p2 s s2 := by
  obtain ⟨⟨A, hm⟩, ⟨g, cap, V, hr⟩, ho⟩ := h
  refine ⟨⟨A, hm.keeps hk fun k e => ?_⟩, ⟨g, cap, V, hr.keeps hk fun k e cs t z hc => ?_⟩, ho.trans (hk.below (fun k e => (hS k e).1) ho.size)⟩
  · obtain ⟨_, cs, t, h1, h2⟩ := hS k e
    exact ⟨fun e => cells_ne h1 hm.blk (by rcases h2 with rfl | rfl | rfl <;> decide) e, gm_ne h1 hm.map, fun ds y e => cells_ne h1 e (by rcases h2 with rfl | rfl | rfl <;> decide) rfl⟩
  · obtain ⟨_, ds, t2, h1, h2⟩ := hS k e
    rw [hc] at h1
    injection h1 with h1
    injection h1 with _ h3
    subst h3
    rcases h2 with rfl | rfl | rfl <;> decide
/-- A fresh block turned. -/
theorem Lv.fresh {W w w2 : World} {p mb p2 q B : Nat} {s s2 : MS} (h : Lv W w p mb p2 s s2) (hb : Below B w w2) (hB : ∀ k, k < w.heap.size → k < B) : Lv W w2 p mb p2 s s2 := by
  refine h.go ⟨hb.os, hb.tape, hb.output, hb.size, fun k hk => hb.block k (hB k hk)⟩
/-- Two rows of one kind that lie apart. -/
structure Two (w : World) (B : Nat) (t : TypeId) (s : Nat) (v1 v2 : Value) (n : Nat) (xs : List Value) : Prop where
  r1 : w.ownsRow B t s v1 n xs
  r2 : w.ownsRow B t s v2 n xs
  ne : ∀ k, v1.ownBlock = some k → v2.ownBlock ≠ some k
theorem Two.keeps {S : Nat → Prop} {w w2 : World} {B s n : Nat} {t : TypeId} {v1 v2 : Value} {xs : List Value} (h : Two w B t s v1 v2 n xs) (hk : Keeps S w w2) (hS : ∀ k, S k → ∃ cs t', w.heap[k]? = some (.cells cs t' (0, 0)) ∧ t' ≠ t) : Two w2 B t s v1 v2 n xs := by
  have hn : ∀ v, w.ownsRow B t s v n xs → ∀ k, v.ownBlock = some k → ¬ S k := fun v h k e hs => by
    obtain ⟨cs, t', h1, h2⟩ := hS k hs
    obtain ⟨_, ds, h3⟩ := own_cells h e
    rw [h1] at h3
    injection h3 with h3
    injection h3 with _ h4
    exact h2 h4
  exact ⟨hk.row h.r1 (hn _ h.r1), hk.row h.r2 (hn _ h.r2), h.ne⟩
theorem Two.go {w w2 : World} {B s n : Nat} {t : TypeId} {v1 v2 : Value} {xs : List Value} (h : Two w B t s v1 v2 n xs) (hb : Below w.heap.size w w2) : Two w2 B t s v1 v2 n xs :=
  h.keeps (Keeps.fresh (S := fun _ => False) hb) fun _ h => h.elim
theorem Two.of {w w2 : World} {b B s n : Nat} {t : TypeId} {v1 v2 : Value} {xs : List Value} (h1 : w.ownsRow b t s v1 n xs) (hB : B ≤ b) (h2 : w2.ownsRow w.heap.size t s v2 n xs) (hb : Below w.heap.size w w2) (hw : B ≤ w.heap.size) : Two w2 B t s v1 v2 n xs :=
  ⟨row_more ((Keeps.fresh (S := fun _ => False) hb).row h1 fun _ _ h => h) hB, row_more h2 hw, fun k e1 e2 => by have := (row_lt h1 e1).2; have := (row_lt h2 e2).1; omega⟩
def twoOf {α : Type} (a b : α) (j : Nat) : α := if j = 0 then a else b
theorem two_cases {j : Nat} (h : j < 2) : j = 0 ∨ j = 1 := by omega
section
variable {w : World} {B s n c1 c2 : Nat} {t : TypeId} {A1 A2 : Option Addr} {xs : List Value}
theorem Two.foot (h : Two w B t s (.slice A1 n c1) (.slice A2 n c2) n xs) {k : Nat} (hk : ∃ j, j < 2 ∧ (Value.slice (twoOf A1 A2 j) n (twoOf c1 c2 j)).ownBlock = some k) : B ≤ k ∧ ∃ cs, w.heap[k]? = some (.cells cs t (0, 0)) := by
  obtain ⟨j, hj, e⟩ := hk
  rcases two_cases hj with rfl | rfl
  · exact own_cells h.r1 e
  · exact own_cells h.r2 e
theorem Two.dist (h : Two w B t s (.slice A1 n c1) (.slice A2 n c2) n xs) : ∀ j k, j < 2 → k < 2 → j ≠ k → ∀ g, (Value.slice (twoOf A1 A2 j) n (twoOf c1 c2 j)).ownBlock = some g → (Value.slice (twoOf A1 A2 k) n (twoOf c1 c2 k)).ownBlock ≠ some g := by
  intro j k hj hk hne g h1 h2
  rcases two_cases hj with rfl | rfl <;> rcases two_cases hk with rfl | rfl
  · exact hne rfl
  · exact h.ne g h1 h2
  · exact h.ne g h2 h1
  · exact hne rfl
theorem two_arr {q : Nat} {ty : TypeId} {z : Nat × Nat} (h : w.heap[q]? = some (.cells #[.slice A1 n c1, .slice A2 n c2] ty z)) : Arr w w.heap.size (some ⟨q, 0, none⟩) 2 fun j => .slice (twoOf A1 A2 j) n (twoOf c1 c2 j) :=
  Arr.ofBlock 2 _ h fun j hj => by rcases two_cases hj with rfl | rfl <;> rfl
end
theorem Two.rowsI {w : World} {B n c1 c2 : Nat} {A1 A2 : Option Addr} {f : Nat → Int} (h : Two w B 3 1 (.slice A1 n c1) (.slice A2 n c2) n ((List.range n).map fun i => Value.int .i64 (f i))) : ∀ j, j < 2 → RowAtI w B (.slice (twoOf A1 A2 j) n (twoOf c1 c2 j)) n j 0 := fun j hj => by
  refine ⟨fun i => .int .i64 (f i), fun i hi => absurd hi (Nat.not_lt_zero i), fun i => rfl, ?_⟩
  rcases two_cases hj with rfl | rfl
  · exact h.r1
  · exact h.r2
theorem Two.rowsIt {w : World} {B c1 c2 : Nat} {A1 A2 : Option Addr} {L : List Itm} (hL : ∀ x ∈ L, OkIt x) (h : Two w B 75 73 (.slice A1 L.length c1) (.slice A2 L.length c2) L.length (cellsL L)) : ∀ j, j < 2 → FlIt.RowAtIt w B (.slice (twoOf A1 A2 j) L.length (twoOf c1 c2 j)) L.length j 0 := fun j hj => by
  refine ⟨fun i => cellsIt (elI L i), wideIt _, fun i => oneIt _, fun i hi => absurd hi (Nat.not_lt_zero i), ?_⟩
  rw [elI_all hL]
  rcases two_cases hj with rfl | rfl
  · exact h.r1
  · exact h.r2
theorem row_itemsA {w : World} {B c : Nat} {A : Option Addr} {L : List Itm} (hL : ∀ x ∈ L, OkIt x) (h : w.ownsRow B 75 73 (.slice A L.length c) L.length (cellsL L)) : SArr w w.heap.size A L.length 73 fun i => cellsIt (elI L i) := by
  obtain ⟨A', c', e, h1, _⟩ := row_items hL h
  injection e with e1 e2 e3
  subst e1
  exact h1
set_option maxRecDepth 100000 in
set_option maxHeartbeats 8000000 in
theorem lives3 (un : Int) (L : Nat → Dox) (A : Option Addr) (n c : Nat) (W : World) (hL : ∀ i, i < n → OkDo (L i)) (ha : SArr W W.heap.size A n 37 fun i => (L i).cells) :
    Calls Tryz.prog 3 #[.int .i64 un, .slice A n c] W fun e w' => e = .returned (.bool true) ∧ Below W.heap.size W w' := by
  have HL := Lib.hid hL
  have HA := Lib.hid ha
  clear hL ha
  go_enter Tryz.func3, Tryz.ntmps3
  by_cases hun : un < 1 ∨ 512 < un
  · go_wp2_with fail
    refine (new_no un W hun).mono ?_
    rintro e _ ⟨rfl, rfl⟩
    go_wp2_with fail
    refine (rnew_no un W hun).mono ?_
    rintro e _ ⟨rfl, rfl⟩
    go_wp2_with fail
    refine (awake_p W).mono ?_
    rintro e w1 ⟨rfl, hb⟩
    have HB := Lib.hid hb
    clear hb
    go_wp2_with fail
    go_ret
    exact ⟨rfl, HB.out⟩
  obtain ⟨N, rfl⟩ : ∃ N : Nat, un = N := ⟨un.toNat, by omega⟩
  have hN : 1 ≤ N ∧ N ≤ 512 := by omega
  go_wp2_with fail
  refine (new_yes N W hN).mono ?_
  rintro e w1 ⟨p, mb, rfl, hm, hb⟩
  have M1 := Lib.hid hm
  have B1 := Lib.hid hb
  clear hm hb
  go_wp2_with fail
  refine (rnew_yes N w1 hN).mono ?_
  rintro e w2 ⟨p2, rfl, hr, hb⟩
  have HV : Hid (Lv W w2 p mb p2 (st0 N) (st0 N)) := Lib.hid (by
    obtain ⟨g, cap, V, hr⟩ := hr
    have hs := B1.out.size
    exact ⟨M1.out.go hb, ⟨g, cap, V, hr.cell, row_more hr.row hs, fun i hi => row_more (hr.sl i hi) hs, hr.own, hr.inv, Nat.le_trans hs hr.lp⟩, B1.out.trans (hb.mono hs)⟩)
  clear hr hb M1 B1 hun hN
  go_upto_block 0 with fail
  go_cut [8, 9, 10, 11, 12] from 31 to 107 (fun s8 s9 s10 s11 s12 wx => ∃ st : MS, Lv W wx p mb p2 st st)
  case first =>
    go_wp2_with fail
    go_loopw [8] (fun i wr => ∃ (j : Nat) (st : MS), j ≤ n ∧ j ≤ 60 ∧ i = .int .i64 j ∧ Lv W wr p mb p2 st st) (fun i _ => 60 - (Go.RowKit.intOf i).toNat)
    case atStart => exact ⟨0, st0 N, Nat.zero_le _, by omega, rfl, HV.out⟩
    case round =>
      obtain ⟨j, st, hj, hj2, rfl, hV⟩ := hrel
      clear HV
      have HV := Lib.hid hV
      clear hV
      by_cases hlt : j < n
      · by_cases hlt2 : j < 60
        · obtain ⟨g, off, rfl, hg, hrow⟩ := HA.out (by omega)
          have HR : Hid (∀ V, Below W.heap.size W V → V.rangeAt g (off + j * 37) (L j).cells) := Lib.hid fun V h i v hi => (World.cell?_of_block (h.block g hg)).trans (hrow j hlt i v hi)
          have HOK := Lib.hid (HL.out j hlt)
          obtain ⟨d, hd⟩ : ∃ d, d = L j := ⟨_, rfl⟩
          rw [← hd] at HR HOK
          have HSZ := Lib.hid (sizeDo HOK.out.k)
          have RA := Lib.hid (HR.out wr HV.out.old)
          have i1 : (0 : Int) ≤ j := by omega
          have i2 : (j : Int) < n := by omega
          have i3 : (j : Int) < 60 := by omega
          have i4 : j < n := hlt
          have i5 : j < 60 := hlt2
          obtain ⟨f, hf⟩ : ∃ f : Nat, (j : Int).tmod 8 = f := ⟨j % 8, by rw [Int.tmod_eq_emod_of_nonneg (by omega)]; omega⟩
          clear hg hrow hd
          go_upto_region 10 with fail
          go_cut [69] from 41 to 69 (fun s69 wx => s69 = .bool false ∧ Lv W wx p mb p2 (stepD st d) (stepD st d))
          case first =>
            go_wp2_with (refine wpList_load_midG rfl 35 (.tmp 45) rfl g (off + j * 37) rfl d.cells _ RA.out Tryz.underlying35 rfl HSZ.out ?_)
            refine (step_p HV.out d HOK.out).mono ?_
            rintro e w4 ⟨rfl, hV⟩
            have HV := Lib.hid hV
            clear hV
            obtain ⟨s, hs⟩ : ∃ s, s = stepD st d := ⟨_, rfl⟩
            rw [← hs] at HV
            have HI8 := Lib.hid HV.out.m.inv.len
            have HSD := Lib.hid hs
            clear hs
            go_wp2_with fail
            refine (ids_p HV.out.m).mono ?_
            rintro e w5 ⟨v5, rfl, ho, hb⟩
            rw [idA_row] at ho
            obtain ⟨A5, c5, rfl, ha5, _, _, _⟩ := row_arr ho
            have R5 := Lib.hid ha5
            have HV := Lib.hid (HV.out.go hb)
            clear ho hb ha5
            go_wp2_with fail
            refine (rids_p HV.out.r).mono ?_
            rintro e w6 ⟨v6, rfl, ho, hb⟩
            rw [idA_row] at ho
            obtain ⟨A6, c6, rfl, ha6, _, _, _⟩ := row_arr ho
            have R6 := Lib.hid ha6
            have R5 := Lib.hid (R5.out.below hb (Nat.le_refl _))
            have HV := Lib.hid (HV.out.go hb)
            clear ho hb ha6
            go_wp2_with fail
            refine (sameI (fun i => idA s (i + 1)) A5 A6 s.snaps.length c5 c6 _ _ w6 (by have := HI8.out; omega) R5.out R6.out).mono ?_
            rintro e w7 ⟨rfl, q7, rfl⟩
            have HV := Lib.hid (HV.out.go (below_drewN (Below.refl _ w6) q7))
            obtain ⟨w7, hw7⟩ : ∃ w7, w7 = w6.drewN q7 := ⟨_, rfl⟩
            rw [← hw7] at HV ⊢
            clear hw7 R5 R6
            have hf8 : f < 8 := by have h := hf; rw [Int.tmod_eq_emod_of_nonneg (by omega)] at h; omega
            by_cases h0 : f = 0
            · subst h0
              have HI := Lib.hid HV.out.m.inv
              have e0 : (((0 : Nat) : Int) == 0) = true := by decide
              go_wp2_with fail
              refine (items_p HV.out.m).mono ?_
              rintro e w8 ⟨v8, rfl, ho, hb⟩
              obtain ⟨A8, c8, rfl, ha8, _, _⟩ := row_items (items_ok HI.out) ho
              have R8 := Lib.hid ha8
              have HV := Lib.hid (HV.out.go hb)
              clear ho hb ha8
              go_wp2_with fail
              refine (ritems_p HV.out.r).mono ?_
              rintro e w9 ⟨v9, rfl, ho, hb⟩
              obtain ⟨A9, c9, rfl, ha9, _, _⟩ := row_items (items_ok HI.out) ho
              have R9 := Lib.hid ha9
              have R8 := Lib.hid (R8.out.below hb (Nat.le_refl _))
              have HV := Lib.hid (HV.out.go hb)
              clear ho hb ha9
              go_wp2_with fail
              refine (sameItems (itemsM s) (items_ok HI.out) (by have := items_len HI.out; omega) A8 A9 c8 c9 _ _ w9 R8.out R9.out).mono ?_
              rintro e w10 ⟨rfl, hb⟩
              have HV := Lib.hid (HV.out.go hb)
              clear hb
              go_wp2_with fail
              go_meet
              exact ⟨rfl, HSD.out ▸ HV.out⟩
            · have e0 : ((f : Int) == 0) = false := by simp; omega
              have e1 : (f == 0) = false := by simp; omega
              go_wp2_with fail
              go_meet
              exact ⟨rfl, HSD.out ▸ HV.out⟩
          case rest =>
            obtain ⟨rfl, hV⟩ := hcut
            clear HV RA
            have HV := Lib.hid hV
            clear hV
            obtain ⟨s, hs⟩ : ∃ s, s = stepD st d := ⟨_, rfl⟩
            rw [← hs] at HV
            clear hs
            have HWB := Lib.hid HOK.out.b
            have HSS : Hid (∀ V, Below W.heap.size W V → (fun w' : World => w'.cell? ⟨g, off + j * 37 + 2, none⟩ = some (.int .i64 d.b) ∧ w'.cell? ⟨g, off + j * 37 + 1, none⟩ = some (.int .i64 d.a)) V) := Lib.hid fun V hb => by
              obtain ⟨_, h1, h2, _⟩ := do_at (HR.out V hb)
              exact ⟨h2, h1⟩
            obtain ⟨da, hda⟩ : ∃ z, z = d.a := ⟨_, rfl⟩
            obtain ⟨db, hdb⟩ : ∃ z, z = d.b := ⟨_, rfl⟩
            rw [← hda, ← hdb] at HSS
            rw [← hdb] at HWB
            obtain ⟨s9, b9, hg9⟩ := getR_is s db da
            have HG1 : Hid (∀ w, Lv W w p mb p2 s s → Calls Tryz.prog 15 #[.pointer (some ⟨p, 0, none⟩), .int .i64 db, .int .i64 da] w fun e w' => e = .returned (.tuple #[.agg (slcC s9).toArray, .bool b9]) ∧ Below w.heap.size w w') := Lib.hid fun w h => by have h1 := get_p h.m db da HWB.out; rwa [hg9] at h1
            have HG2 : Hid (∀ w, Lv W w p mb p2 s s → Calls Tryz.prog 16 #[.pointer (some ⟨p2, 0, none⟩), .int .i64 db, .int .i64 da] w fun e w' => e = .returned (.tuple #[.agg (slcC s9).toArray, .bool b9]) ∧ Below w.heap.size w w') := Lib.hid fun w h => by have h1 := rget_p h.r db da; rwa [hg9] at h1
            have HZ := Lib.hid (sizeSl s9)
            have HLZ : Hid (zS.length = (slcC s9).length) := Lib.hid (by rw [lenC, zS_len])
            have HON := Lib.hid (oneC s9)
            have HEQ : Hid (∀ w, EqRun Tryz.prog 33 (slcC s9).toArray (slcC s9).toArray w true) := Lib.hid fun w => eqrSl s9 w
            have HFT : Hid (0 + (slcC s9).length ≤ zS.length) := Lib.hid (by rw [lenC, zS_len]; exact Nat.le_refl _)
            obtain ⟨xs, hxs⟩ : ∃ xs, xs = slcC s9 := ⟨_, rfl⟩
            rw [← hxs] at HG1 HG2 HZ HLZ HON HEQ HFT
            clear hda hdb hg9 hxs hf HSZ
            go_upto_region 12 with fail
            go_cut [9, 10] from 70 to 84 (fun s9 s10 wx => ∃ q, s9 = .pointer (some ⟨q, 0, none⟩) ∧ s10 = .bool b9 ∧ wx.heap[q]? = some (.cells xs.toArray 33 (0, 0)) ∧ Lv W wx p mb p2 s s)
            case first =>
              have VD := Lib.hid (HV.out.go (w2 := wc.drew) (below_drewN (Below.refl _ _) 1))
              skip
              obtain ⟨wq, hwq⟩ : ∃ z, z = wc.drew := ⟨_, rfl⟩
              refine wp_region_held_drew (S := (fun w' : World => w'.cell? ⟨g, off + j * 37 + 2, none⟩ = some (.int .i64 db) ∧ w'.cell? ⟨g, off + j * 37 + 1, none⟩ = some (.int .i64 da))) follows (HSS.out _ VD.out.old) (fun hHeld => ?_)
              rw [← hwq] at VD hHeld ⊢
              clear hwq
              refine wpAnyH_take (i := 0) (v := ?_) (by simp only [List.getElem?_toArray, List.getElem?_cons_zero]; rfl) (by kernel_rfl) (by kernel_rfl) (by kernel_rfl) (by intro _ _ _ h; exact h) (Or.inl ⟨by rfl, ?_⟩) hHeld ?_
              rotate_left
              · (intro w hSw; (try dsimp only at hSw); go_simp; try with_reducible rfl)
              try simp only [Act.put, List.setIfInBounds_toArray, List.set_cons_zero, List.set_cons_succ]
              refine wpAnyH_take (i := 1) (v := ?_) (by simp only [List.getElem?_toArray, List.getElem?_cons_zero, List.getElem?_cons_succ]; rfl) (by kernel_rfl) (by kernel_rfl) (by kernel_rfl) (by intro _ _ _ h; exact h) (Or.inl ⟨by rfl, ?_⟩) hHeld ?_
              rotate_left
              · (intro w hSw; (try dsimp only at hSw); go_simp; try with_reducible rfl)
              try simp only [Act.put, List.setIfInBounds_toArray, List.set_cons_zero, List.set_cons_succ]
              refine wpAnyH_take (i := 2) (v := ?_) (by simp only [List.getElem?_toArray, List.getElem?_cons_zero, List.getElem?_cons_succ]; rfl) (by kernel_rfl) (by kernel_rfl) (by kernel_rfl) (by intro _ _ _ h; exact h) (Or.inl ⟨by rfl, ?_⟩) hHeld ?_
              rotate_left
              · (intro w hSw; (try dsimp only at hSw); go_simp; try with_reducible rfl)
              try simp only [Act.put, List.setIfInBounds_toArray, List.set_cons_zero, List.set_cons_succ]
              refine wpAnyH_take (i := 3) (v := ?_) (by simp only [List.getElem?_toArray, List.getElem?_cons_zero, List.getElem?_cons_succ]; rfl) (by kernel_rfl) (by kernel_rfl) (by kernel_rfl) (by intro _ _ _ h; exact h) (Or.inl ⟨by rfl, ?_⟩) hHeld ?_
              rotate_left
              · (intro w hSw; (try dsimp only at hSw); go_simp; try with_reducible rfl)
              try simp only [Act.put, List.setIfInBounds_toArray, List.set_cons_zero, List.set_cons_succ]
              refine wpAnyH_take (i := 4) (v := ?_) (by simp only [List.getElem?_toArray, List.getElem?_cons_zero, List.getElem?_cons_succ]; rfl) (by kernel_rfl) (by kernel_rfl) (by kernel_rfl) (by intro _ _ _ h; exact h) (Or.inl ⟨by rfl, ?_⟩) hHeld ?_
              rotate_left
              · (intro w hSw; (try dsimp only at hSw); go_simp; try with_reducible rfl)
              try simp only [Act.put, List.setIfInBounds_toArray, List.set_cons_zero, List.set_cons_succ]
              refine wpAnyH_take (i := 5) (v := ?_) (by simp only [List.getElem?_toArray, List.getElem?_cons_zero, List.getElem?_cons_succ]; rfl) (by kernel_rfl) (by kernel_rfl) (by kernel_rfl) (by intro _ _ _ h; exact h) (Or.inl ⟨by rfl, ?_⟩) hHeld ?_
              rotate_left
              · (intro w hSw; (try dsimp only at hSw); go_simp; try with_reducible rfl)
              try simp only [Act.put, List.setIfInBounds_toArray, List.set_cons_zero, List.set_cons_succ]
              refine wpAnyH_take (i := 6) (v := ?_) (by simp only [List.getElem?_toArray, List.getElem?_cons_zero, List.getElem?_cons_succ]; rfl) (by kernel_rfl) (by kernel_rfl) (by kernel_rfl) (by intro _ _ _ h; exact h) (Or.inl ⟨by rfl, ?_⟩) hHeld ?_
              rotate_left
              · (intro w hSw; (try dsimp only at hSw); go_simp; try with_reducible rfl)
              try simp only [Act.put, List.setIfInBounds_toArray, List.set_cons_zero, List.set_cons_succ]
              refine wpAnyH_take (i := 7) (v := ?_) (by simp only [List.getElem?_toArray, List.getElem?_cons_zero, List.getElem?_cons_succ]; rfl) (by kernel_rfl) (by kernel_rfl) (by kernel_rfl) (by intro _ _ _ h; exact h) (Or.inl ⟨by rfl, ?_⟩) hHeld ?_
              rotate_left
              · (intro w hSw; (try dsimp only at hSw); go_simp; try with_reducible rfl)
              try simp only [Act.put, List.setIfInBounds_toArray, List.set_cons_zero, List.set_cons_succ]
              refine wpAnyH_take (i := 8) (v := ?_) (by simp only [List.getElem?_toArray, List.getElem?_cons_zero, List.getElem?_cons_succ]; rfl) (by kernel_rfl) (by kernel_rfl) (by kernel_rfl) (by intro _ _ _ h; exact h) (Or.inl ⟨by rfl, ?_⟩) hHeld ?_
              rotate_left
              · (intro w hSw; (try dsimp only at hSw); go_simp; try with_reducible rfl)
              try simp only [Act.put, List.setIfInBounds_toArray, List.set_cons_zero, List.set_cons_succ]
              refine wpAnyH_take (i := 9) (v := ?_) (by simp only [List.getElem?_toArray, List.getElem?_cons_zero, List.getElem?_cons_succ]; rfl) (by kernel_rfl) (by kernel_rfl) (by kernel_rfl) (by intro _ _ _ h; exact h) (Or.inl ⟨by rfl, ?_⟩) hHeld ?_
              rotate_left
              · (intro w hSw; (try dsimp only at hSw); go_simp; try with_reducible rfl)
              try simp only [Act.put, List.setIfInBounds_toArray, List.set_cons_zero, List.set_cons_succ]
              refine wpAnyH_take (i := 10) (v := ?_) (by simp only [List.getElem?_toArray, List.getElem?_cons_zero, List.getElem?_cons_succ]; rfl) (by kernel_rfl) (by kernel_rfl) (by kernel_rfl) (by intro _ _ _ h; exact h) (Or.inl ⟨by rfl, ?_⟩) hHeld ?_
              rotate_left
              · (intro w hSw; (try dsimp only at hSw); go_simp; try with_reducible rfl)
              try simp only [Act.put, List.setIfInBounds_toArray, List.set_cons_zero, List.set_cons_succ]
              refine wpAnyH_ready (rs := [11, 15]) (by kernel_rfl) (by simp) ?_
              refine AllReadyH.cons (by simp only [List.getElem?_toArray, List.getElem?_cons_zero, List.getElem?_cons_succ]; rfl) (fun K hK => ?_) (AllReadyH.cons (by simp only [List.getElem?_toArray, List.getElem?_cons_zero, List.getElem?_cons_succ]; rfl) (fun K hK => ?_) AllReadyH.nil)
              · rw [if_pos (by rfl)]
                go_simp
                refine (HG1.out _ VD.out).mono ?_
                rintro e w5 ⟨rfl, hb⟩
                have V5 := Lib.hid (VD.out.go hb)
                skip
                clear hb
                refine hK.out _ _ (HSS.out _ V5.out.old) (fun hHeld => ?_)
                clear hK K
                try simp only [Act.put, List.setIfInBounds_toArray, List.set_cons_zero, List.set_cons_succ]
                refine wpAnyH_take (i := 12) (v := ?_) (by simp only [List.getElem?_toArray, List.getElem?_cons_zero, List.getElem?_cons_succ]; rfl) (by kernel_rfl) (by kernel_rfl) (by kernel_rfl) (by intro _ _ _ h; exact h) (Or.inl ⟨by rfl, ?_⟩) hHeld ?_
                rotate_left
                · (intro w hSw; (try dsimp only at hSw); go_simp; try with_reducible rfl)
                try simp only [Act.put, List.setIfInBounds_toArray, List.set_cons_zero, List.set_cons_succ]
                refine wpAnyH_take (i := 13) (v := ?_) (by simp only [List.getElem?_toArray, List.getElem?_cons_zero, List.getElem?_cons_succ]; rfl) (by kernel_rfl) (by kernel_rfl) (by kernel_rfl) (by intro _ _ _ h; exact h) (Or.inl ⟨by rfl, ?_⟩) hHeld ?_
                rotate_left
                · (intro w hSw; (try dsimp only at hSw); go_simp; try with_reducible rfl)
                try simp only [Act.put, List.setIfInBounds_toArray, List.set_cons_zero, List.set_cons_succ]
                refine wpAnyH_take (i := 14) (v := ?_) (by simp only [List.getElem?_toArray, List.getElem?_cons_zero, List.getElem?_cons_succ]; rfl) (by kernel_rfl) (by kernel_rfl) (by kernel_rfl) (by intro _ _ _ h; exact h) (Or.inl ⟨by rfl, ?_⟩) hHeld ?_
                rotate_left
                · (intro w hSw; (try dsimp only at hSw); go_simp; try with_reducible rfl)
                try simp only [Act.put, List.setIfInBounds_toArray, List.set_cons_zero, List.set_cons_succ]
                refine wpAnyH_ready (rs := [15]) (by kernel_rfl) (by simp) ?_
                refine AllReadyH.cons (by simp only [List.getElem?_toArray, List.getElem?_cons_zero, List.getElem?_cons_succ]; rfl) (fun K hK => ?_) AllReadyH.nil
                rw [if_pos (by rfl)]
                refine wp_laid 33 rfl zS (zeroVS _) ?_
                have hb6 : Below w5.heap.size w5 (w5.alloc (.cells zS.toArray 33)) := (Below.refl _ _).alloc (Nat.le_refl _) _
                have V6 := Lib.hid (V5.out.go hb6)
                have A6 : Hid ((w5.alloc (.cells zS.toArray 33)).heap[w5.heap.size]? = some (.cells zS.toArray 33 (0, 0))) := Lib.hid (heap_new _ _)
                have HB6 := Lib.hid hb6
                skip
                clear hb6
                refine hK.out _ _ (HSS.out _ V6.out.old) (fun hHeld => ?_)
                clear hK K
                try simp only [Act.put, List.setIfInBounds_toArray, List.set_cons_zero, List.set_cons_succ]
                refine wpAnyH_ready (rs := [16]) (by kernel_rfl) (by simp) ?_
                refine AllReadyH.cons (by simp only [List.getElem?_toArray, List.getElem?_cons_zero, List.getElem?_cons_succ]; rfl) (fun K hK => ?_) AllReadyH.nil
                rw [if_pos (by rfl)]
                refine wp_store_segK 33 (.tmp 9) (.tmp 83) rfl w5.heap.size 0 rfl xs rfl zS 33 A6.out HZ.out HFT.out HON.out (fun w7 h7 k7 s7 => ?_)
                rw [splice_whole _ _ HLZ.out] at h7
                have hb7 : Below w5.heap.size w5 w7 := HB6.out.trans (k7.below (fun k e => by rw [e]; exact Nat.le_refl _) HB6.out.size)
                have V7 := Lib.hid (V5.out.go hb7)
                have A7 := Lib.hid h7
                skip
                clear h7 k7 s7 hb7
                refine hK.out _ _ (HSS.out _ V7.out.old) (fun hHeld => ?_)
                clear hK K
                try simp only [Act.put, List.setIfInBounds_toArray, List.set_cons_zero, List.set_cons_succ]
                refine wpAnyH_take (i := 17) (v := ?_) (by simp only [List.getElem?_toArray, List.getElem?_cons_zero, List.getElem?_cons_succ]; rfl) (by kernel_rfl) (by kernel_rfl) (by kernel_rfl) (by intro _ _ _ h; exact h) (Or.inl ⟨by rfl, ?_⟩) hHeld ?_
                rotate_left
                · (intro w hSw; (try dsimp only at hSw); go_simp; try with_reducible rfl)
                try simp only [Act.put, List.setIfInBounds_toArray, List.set_cons_zero, List.set_cons_succ]
                refine wpAnyH_done (by kernel_rfl) ?_ _
                clear hHeld
                go_wp2_with fail
                go_meet
                exact ⟨_, rfl, rfl, A7.out, V7.out⟩
              · rw [if_pos (by rfl)]
                refine wp_laid 33 rfl zS (zeroVS _) ?_
                have hb6 : Below wq.heap.size wq (wq.alloc (.cells zS.toArray 33)) := (Below.refl _ _).alloc (Nat.le_refl _) _
                have V6 := Lib.hid (VD.out.go hb6)
                have A6 : Hid ((wq.alloc (.cells zS.toArray 33)).heap[wq.heap.size]? = some (.cells zS.toArray 33 (0, 0))) := Lib.hid (heap_new _ _)
                have HB6 := Lib.hid hb6
                skip
                clear hb6
                refine hK.out _ _ (HSS.out _ V6.out.old) (fun hHeld => ?_)
                clear hK K
                try simp only [Act.put, List.setIfInBounds_toArray, List.set_cons_zero, List.set_cons_succ]
                refine wpAnyH_ready (rs := [11]) (by kernel_rfl) (by simp) ?_
                refine AllReadyH.cons (by simp only [List.getElem?_toArray, List.getElem?_cons_zero, List.getElem?_cons_succ]; rfl) (fun K hK => ?_) AllReadyH.nil
                rw [if_pos (by rfl)]
                go_simp
                refine (HG1.out _ V6.out).mono ?_
                rintro e w5 ⟨rfl, hb⟩
                have A5 := Lib.hid ((hb.block _ (heap_lt A6.out)).trans A6.out)
                have HB5 := Lib.hid (HB6.out.trans (hb.mono HB6.out.size))
                have V5 := Lib.hid (V6.out.go hb)
                clear hb
                refine hK.out _ _ (HSS.out _ V5.out.old) (fun hHeld => ?_)
                clear hK K
                try simp only [Act.put, List.setIfInBounds_toArray, List.set_cons_zero, List.set_cons_succ]
                refine wpAnyH_take (i := 12) (v := ?_) (by simp only [List.getElem?_toArray, List.getElem?_cons_zero, List.getElem?_cons_succ]; rfl) (by kernel_rfl) (by kernel_rfl) (by kernel_rfl) (by intro _ _ _ h; exact h) (Or.inl ⟨by rfl, ?_⟩) hHeld ?_
                rotate_left
                · (intro w hSw; (try dsimp only at hSw); go_simp; try with_reducible rfl)
                try simp only [Act.put, List.setIfInBounds_toArray, List.set_cons_zero, List.set_cons_succ]
                refine wpAnyH_take (i := 13) (v := ?_) (by simp only [List.getElem?_toArray, List.getElem?_cons_zero, List.getElem?_cons_succ]; rfl) (by kernel_rfl) (by kernel_rfl) (by kernel_rfl) (by intro _ _ _ h; exact h) (Or.inl ⟨by rfl, ?_⟩) hHeld ?_
                rotate_left
                · (intro w hSw; (try dsimp only at hSw); go_simp; try with_reducible rfl)
                try simp only [Act.put, List.setIfInBounds_toArray, List.set_cons_zero, List.set_cons_succ]
                refine wpAnyH_take (i := 14) (v := ?_) (by simp only [List.getElem?_toArray, List.getElem?_cons_zero, List.getElem?_cons_succ]; rfl) (by kernel_rfl) (by kernel_rfl) (by kernel_rfl) (by intro _ _ _ h; exact h) (Or.inl ⟨by rfl, ?_⟩) hHeld ?_
                rotate_left
                · (intro w hSw; (try dsimp only at hSw); go_simp; try with_reducible rfl)
                try simp only [Act.put, List.setIfInBounds_toArray, List.set_cons_zero, List.set_cons_succ]
                refine wpAnyH_ready (rs := [16]) (by kernel_rfl) (by simp) ?_
                refine AllReadyH.cons (by simp only [List.getElem?_toArray, List.getElem?_cons_zero, List.getElem?_cons_succ]; rfl) (fun K hK => ?_) AllReadyH.nil
                rw [if_pos (by rfl)]
                refine wp_store_segK 33 (.tmp 9) (.tmp 83) rfl wq.heap.size 0 rfl xs rfl zS 33 A5.out HZ.out HFT.out HON.out (fun w7 h7 k7 s7 => ?_)
                rw [splice_whole _ _ HLZ.out] at h7
                have hb7 : Below wq.heap.size wq w7 := HB5.out.trans (k7.below (fun k e => by rw [e]; exact Nat.le_refl _) HB5.out.size)
                have V7 := Lib.hid (VD.out.go hb7)
                have A7 := Lib.hid h7
                skip
                clear h7 k7 s7 hb7
                refine hK.out _ _ (HSS.out _ V7.out.old) (fun hHeld => ?_)
                clear hK K
                try simp only [Act.put, List.setIfInBounds_toArray, List.set_cons_zero, List.set_cons_succ]
                refine wpAnyH_take (i := 17) (v := ?_) (by simp only [List.getElem?_toArray, List.getElem?_cons_zero, List.getElem?_cons_succ]; rfl) (by kernel_rfl) (by kernel_rfl) (by kernel_rfl) (by intro _ _ _ h; exact h) (Or.inl ⟨by rfl, ?_⟩) hHeld ?_
                rotate_left
                · (intro w hSw; (try dsimp only at hSw); go_simp; try with_reducible rfl)
                try simp only [Act.put, List.setIfInBounds_toArray, List.set_cons_zero, List.set_cons_succ]
                refine wpAnyH_done (by kernel_rfl) ?_ _
                clear hHeld
                go_wp2_with fail
                go_meet
                exact ⟨_, rfl, rfl, A7.out, V7.out⟩
            case rest =>
              obtain ⟨qa, rfl, rfl, hqa, hV⟩ := hcut
              clear HV
              have HV := Lib.hid hV
              have KQ := Lib.hid hqa
              clear hV hqa
              go_upto_region 13 with fail
              go_cut [11, 12] from 85 to 99 (fun s9 s10 wx => ∃ q, s9 = .pointer (some ⟨q, 0, none⟩) ∧ s10 = .bool b9 ∧ wx.heap[q]? = some (.cells xs.toArray 33 (0, 0)) ∧ Lv W wx p mb p2 s s ∧ wx.heap[qa]? = some (.cells xs.toArray 33 (0, 0)))
              case first =>
                have VD := Lib.hid (HV.out.go (w2 := wc.drew) (below_drewN (Below.refl _ _) 1))
                have KD : Hid (wc.drew.heap[qa]? = some (.cells xs.toArray 33 (0, 0))) := Lib.hid KQ.out
                obtain ⟨wq, hwq⟩ : ∃ z, z = wc.drew := ⟨_, rfl⟩
                refine wp_region_held_drew (S := (fun w' : World => w'.cell? ⟨g, off + j * 37 + 2, none⟩ = some (.int .i64 db) ∧ w'.cell? ⟨g, off + j * 37 + 1, none⟩ = some (.int .i64 da))) follows (HSS.out _ VD.out.old) (fun hHeld => ?_)
                rw [← hwq] at VD hHeld KD ⊢
                clear hwq
                refine wpAnyH_take (i := 0) (v := ?_) (by simp only [List.getElem?_toArray, List.getElem?_cons_zero]; rfl) (by kernel_rfl) (by kernel_rfl) (by kernel_rfl) (by intro _ _ _ h; exact h) (Or.inl ⟨by rfl, ?_⟩) hHeld ?_
                rotate_left
                · (intro w hSw; (try dsimp only at hSw); go_simp; try with_reducible rfl)
                try simp only [Act.put, List.setIfInBounds_toArray, List.set_cons_zero, List.set_cons_succ]
                refine wpAnyH_take (i := 1) (v := ?_) (by simp only [List.getElem?_toArray, List.getElem?_cons_zero, List.getElem?_cons_succ]; rfl) (by kernel_rfl) (by kernel_rfl) (by kernel_rfl) (by intro _ _ _ h; exact h) (Or.inl ⟨by rfl, ?_⟩) hHeld ?_
                rotate_left
                · (intro w hSw; (try dsimp only at hSw); go_simp; try with_reducible rfl)
                try simp only [Act.put, List.setIfInBounds_toArray, List.set_cons_zero, List.set_cons_succ]
                refine wpAnyH_take (i := 2) (v := ?_) (by simp only [List.getElem?_toArray, List.getElem?_cons_zero, List.getElem?_cons_succ]; rfl) (by kernel_rfl) (by kernel_rfl) (by kernel_rfl) (by intro _ _ _ h; exact h) (Or.inl ⟨by rfl, ?_⟩) hHeld ?_
                rotate_left
                · (intro w hSw; (try dsimp only at hSw); go_simp; try with_reducible rfl)
                try simp only [Act.put, List.setIfInBounds_toArray, List.set_cons_zero, List.set_cons_succ]
                refine wpAnyH_take (i := 3) (v := ?_) (by simp only [List.getElem?_toArray, List.getElem?_cons_zero, List.getElem?_cons_succ]; rfl) (by kernel_rfl) (by kernel_rfl) (by kernel_rfl) (by intro _ _ _ h; exact h) (Or.inl ⟨by rfl, ?_⟩) hHeld ?_
                rotate_left
                · (intro w hSw; (try dsimp only at hSw); go_simp; try with_reducible rfl)
                try simp only [Act.put, List.setIfInBounds_toArray, List.set_cons_zero, List.set_cons_succ]
                refine wpAnyH_take (i := 4) (v := ?_) (by simp only [List.getElem?_toArray, List.getElem?_cons_zero, List.getElem?_cons_succ]; rfl) (by kernel_rfl) (by kernel_rfl) (by kernel_rfl) (by intro _ _ _ h; exact h) (Or.inl ⟨by rfl, ?_⟩) hHeld ?_
                rotate_left
                · (intro w hSw; (try dsimp only at hSw); go_simp; try with_reducible rfl)
                try simp only [Act.put, List.setIfInBounds_toArray, List.set_cons_zero, List.set_cons_succ]
                refine wpAnyH_take (i := 5) (v := ?_) (by simp only [List.getElem?_toArray, List.getElem?_cons_zero, List.getElem?_cons_succ]; rfl) (by kernel_rfl) (by kernel_rfl) (by kernel_rfl) (by intro _ _ _ h; exact h) (Or.inl ⟨by rfl, ?_⟩) hHeld ?_
                rotate_left
                · (intro w hSw; (try dsimp only at hSw); go_simp; try with_reducible rfl)
                try simp only [Act.put, List.setIfInBounds_toArray, List.set_cons_zero, List.set_cons_succ]
                refine wpAnyH_take (i := 6) (v := ?_) (by simp only [List.getElem?_toArray, List.getElem?_cons_zero, List.getElem?_cons_succ]; rfl) (by kernel_rfl) (by kernel_rfl) (by kernel_rfl) (by intro _ _ _ h; exact h) (Or.inl ⟨by rfl, ?_⟩) hHeld ?_
                rotate_left
                · (intro w hSw; (try dsimp only at hSw); go_simp; try with_reducible rfl)
                try simp only [Act.put, List.setIfInBounds_toArray, List.set_cons_zero, List.set_cons_succ]
                refine wpAnyH_take (i := 7) (v := ?_) (by simp only [List.getElem?_toArray, List.getElem?_cons_zero, List.getElem?_cons_succ]; rfl) (by kernel_rfl) (by kernel_rfl) (by kernel_rfl) (by intro _ _ _ h; exact h) (Or.inl ⟨by rfl, ?_⟩) hHeld ?_
                rotate_left
                · (intro w hSw; (try dsimp only at hSw); go_simp; try with_reducible rfl)
                try simp only [Act.put, List.setIfInBounds_toArray, List.set_cons_zero, List.set_cons_succ]
                refine wpAnyH_take (i := 8) (v := ?_) (by simp only [List.getElem?_toArray, List.getElem?_cons_zero, List.getElem?_cons_succ]; rfl) (by kernel_rfl) (by kernel_rfl) (by kernel_rfl) (by intro _ _ _ h; exact h) (Or.inl ⟨by rfl, ?_⟩) hHeld ?_
                rotate_left
                · (intro w hSw; (try dsimp only at hSw); go_simp; try with_reducible rfl)
                try simp only [Act.put, List.setIfInBounds_toArray, List.set_cons_zero, List.set_cons_succ]
                refine wpAnyH_take (i := 9) (v := ?_) (by simp only [List.getElem?_toArray, List.getElem?_cons_zero, List.getElem?_cons_succ]; rfl) (by kernel_rfl) (by kernel_rfl) (by kernel_rfl) (by intro _ _ _ h; exact h) (Or.inl ⟨by rfl, ?_⟩) hHeld ?_
                rotate_left
                · (intro w hSw; (try dsimp only at hSw); go_simp; try with_reducible rfl)
                try simp only [Act.put, List.setIfInBounds_toArray, List.set_cons_zero, List.set_cons_succ]
                refine wpAnyH_take (i := 10) (v := ?_) (by simp only [List.getElem?_toArray, List.getElem?_cons_zero, List.getElem?_cons_succ]; rfl) (by kernel_rfl) (by kernel_rfl) (by kernel_rfl) (by intro _ _ _ h; exact h) (Or.inl ⟨by rfl, ?_⟩) hHeld ?_
                rotate_left
                · (intro w hSw; (try dsimp only at hSw); go_simp; try with_reducible rfl)
                try simp only [Act.put, List.setIfInBounds_toArray, List.set_cons_zero, List.set_cons_succ]
                refine wpAnyH_ready (rs := [11, 15]) (by kernel_rfl) (by simp) ?_
                refine AllReadyH.cons (by simp only [List.getElem?_toArray, List.getElem?_cons_zero, List.getElem?_cons_succ]; rfl) (fun K hK => ?_) (AllReadyH.cons (by simp only [List.getElem?_toArray, List.getElem?_cons_zero, List.getElem?_cons_succ]; rfl) (fun K hK => ?_) AllReadyH.nil)
                · rw [if_pos (by rfl)]
                  go_simp
                  refine (HG2.out _ VD.out).mono ?_
                  rintro e w5 ⟨rfl, hb⟩
                  have V5 := Lib.hid (VD.out.go hb)
                  have K5 := Lib.hid ((hb.block qa (heap_lt KD.out)).trans KD.out)

                  clear hb
                  refine hK.out _ _ (HSS.out _ V5.out.old) (fun hHeld => ?_)
                  clear hK K
                  try simp only [Act.put, List.setIfInBounds_toArray, List.set_cons_zero, List.set_cons_succ]
                  refine wpAnyH_take (i := 12) (v := ?_) (by simp only [List.getElem?_toArray, List.getElem?_cons_zero, List.getElem?_cons_succ]; rfl) (by kernel_rfl) (by kernel_rfl) (by kernel_rfl) (by intro _ _ _ h; exact h) (Or.inl ⟨by rfl, ?_⟩) hHeld ?_
                  rotate_left
                  · (intro w hSw; (try dsimp only at hSw); go_simp; try with_reducible rfl)
                  try simp only [Act.put, List.setIfInBounds_toArray, List.set_cons_zero, List.set_cons_succ]
                  refine wpAnyH_take (i := 13) (v := ?_) (by simp only [List.getElem?_toArray, List.getElem?_cons_zero, List.getElem?_cons_succ]; rfl) (by kernel_rfl) (by kernel_rfl) (by kernel_rfl) (by intro _ _ _ h; exact h) (Or.inl ⟨by rfl, ?_⟩) hHeld ?_
                  rotate_left
                  · (intro w hSw; (try dsimp only at hSw); go_simp; try with_reducible rfl)
                  try simp only [Act.put, List.setIfInBounds_toArray, List.set_cons_zero, List.set_cons_succ]
                  refine wpAnyH_take (i := 14) (v := ?_) (by simp only [List.getElem?_toArray, List.getElem?_cons_zero, List.getElem?_cons_succ]; rfl) (by kernel_rfl) (by kernel_rfl) (by kernel_rfl) (by intro _ _ _ h; exact h) (Or.inl ⟨by rfl, ?_⟩) hHeld ?_
                  rotate_left
                  · (intro w hSw; (try dsimp only at hSw); go_simp; try with_reducible rfl)
                  try simp only [Act.put, List.setIfInBounds_toArray, List.set_cons_zero, List.set_cons_succ]
                  refine wpAnyH_ready (rs := [15]) (by kernel_rfl) (by simp) ?_
                  refine AllReadyH.cons (by simp only [List.getElem?_toArray, List.getElem?_cons_zero, List.getElem?_cons_succ]; rfl) (fun K hK => ?_) AllReadyH.nil
                  rw [if_pos (by rfl)]
                  refine wp_laid 33 rfl zS (zeroVS _) ?_
                  have hb6 : Below w5.heap.size w5 (w5.alloc (.cells zS.toArray 33)) := (Below.refl _ _).alloc (Nat.le_refl _) _
                  have V6 := Lib.hid (V5.out.go hb6)
                  have A6 : Hid ((w5.alloc (.cells zS.toArray 33)).heap[w5.heap.size]? = some (.cells zS.toArray 33 (0, 0))) := Lib.hid (heap_new _ _)
                  have HB6 := Lib.hid hb6
                  have K6 := Lib.hid ((hb6.block qa (heap_lt K5.out)).trans K5.out)

                  clear hb6
                  refine hK.out _ _ (HSS.out _ V6.out.old) (fun hHeld => ?_)
                  clear hK K
                  try simp only [Act.put, List.setIfInBounds_toArray, List.set_cons_zero, List.set_cons_succ]
                  refine wpAnyH_ready (rs := [16]) (by kernel_rfl) (by simp) ?_
                  refine AllReadyH.cons (by simp only [List.getElem?_toArray, List.getElem?_cons_zero, List.getElem?_cons_succ]; rfl) (fun K hK => ?_) AllReadyH.nil
                  rw [if_pos (by rfl)]
                  refine wp_store_segK 33 (.tmp 11) (.tmp 98) rfl w5.heap.size 0 rfl xs rfl zS 33 A6.out HZ.out HFT.out HON.out (fun w7 h7 k7 s7 => ?_)
                  rw [splice_whole _ _ HLZ.out] at h7
                  have hb7 : Below w5.heap.size w5 w7 := HB6.out.trans (k7.below (fun k e => by rw [e]; exact Nat.le_refl _) HB6.out.size)
                  have V7 := Lib.hid (V5.out.go hb7)
                  have A7 := Lib.hid h7
                  have K7 := Lib.hid ((hb7.block qa (heap_lt K5.out)).trans K5.out)

                  clear h7 k7 s7 hb7
                  refine hK.out _ _ (HSS.out _ V7.out.old) (fun hHeld => ?_)
                  clear hK K
                  try simp only [Act.put, List.setIfInBounds_toArray, List.set_cons_zero, List.set_cons_succ]
                  refine wpAnyH_take (i := 17) (v := ?_) (by simp only [List.getElem?_toArray, List.getElem?_cons_zero, List.getElem?_cons_succ]; rfl) (by kernel_rfl) (by kernel_rfl) (by kernel_rfl) (by intro _ _ _ h; exact h) (Or.inl ⟨by rfl, ?_⟩) hHeld ?_
                  rotate_left
                  · (intro w hSw; (try dsimp only at hSw); go_simp; try with_reducible rfl)
                  try simp only [Act.put, List.setIfInBounds_toArray, List.set_cons_zero, List.set_cons_succ]
                  refine wpAnyH_done (by kernel_rfl) ?_ _
                  clear hHeld
                  go_wp2_with fail
                  go_meet
                  exact ⟨_, rfl, rfl, A7.out, V7.out, K7.out⟩
                · rw [if_pos (by rfl)]
                  refine wp_laid 33 rfl zS (zeroVS _) ?_
                  have hb6 : Below wq.heap.size wq (wq.alloc (.cells zS.toArray 33)) := (Below.refl _ _).alloc (Nat.le_refl _) _
                  have V6 := Lib.hid (VD.out.go hb6)
                  have A6 : Hid ((wq.alloc (.cells zS.toArray 33)).heap[wq.heap.size]? = some (.cells zS.toArray 33 (0, 0))) := Lib.hid (heap_new _ _)
                  have HB6 := Lib.hid hb6
                  have K6 := Lib.hid ((hb6.block qa (heap_lt KD.out)).trans KD.out)

                  clear hb6
                  refine hK.out _ _ (HSS.out _ V6.out.old) (fun hHeld => ?_)
                  clear hK K
                  try simp only [Act.put, List.setIfInBounds_toArray, List.set_cons_zero, List.set_cons_succ]
                  refine wpAnyH_ready (rs := [11]) (by kernel_rfl) (by simp) ?_
                  refine AllReadyH.cons (by simp only [List.getElem?_toArray, List.getElem?_cons_zero, List.getElem?_cons_succ]; rfl) (fun K hK => ?_) AllReadyH.nil
                  rw [if_pos (by rfl)]
                  go_simp
                  refine (HG2.out _ V6.out).mono ?_
                  rintro e w5 ⟨rfl, hb⟩
                  have A5 := Lib.hid ((hb.block _ (heap_lt A6.out)).trans A6.out)
                  have HB5 := Lib.hid (HB6.out.trans (hb.mono HB6.out.size))
                  have V5 := Lib.hid (V6.out.go hb)
                  clear hb
                  refine hK.out _ _ (HSS.out _ V5.out.old) (fun hHeld => ?_)
                  clear hK K
                  try simp only [Act.put, List.setIfInBounds_toArray, List.set_cons_zero, List.set_cons_succ]
                  refine wpAnyH_take (i := 12) (v := ?_) (by simp only [List.getElem?_toArray, List.getElem?_cons_zero, List.getElem?_cons_succ]; rfl) (by kernel_rfl) (by kernel_rfl) (by kernel_rfl) (by intro _ _ _ h; exact h) (Or.inl ⟨by rfl, ?_⟩) hHeld ?_
                  rotate_left
                  · (intro w hSw; (try dsimp only at hSw); go_simp; try with_reducible rfl)
                  try simp only [Act.put, List.setIfInBounds_toArray, List.set_cons_zero, List.set_cons_succ]
                  refine wpAnyH_take (i := 13) (v := ?_) (by simp only [List.getElem?_toArray, List.getElem?_cons_zero, List.getElem?_cons_succ]; rfl) (by kernel_rfl) (by kernel_rfl) (by kernel_rfl) (by intro _ _ _ h; exact h) (Or.inl ⟨by rfl, ?_⟩) hHeld ?_
                  rotate_left
                  · (intro w hSw; (try dsimp only at hSw); go_simp; try with_reducible rfl)
                  try simp only [Act.put, List.setIfInBounds_toArray, List.set_cons_zero, List.set_cons_succ]
                  refine wpAnyH_take (i := 14) (v := ?_) (by simp only [List.getElem?_toArray, List.getElem?_cons_zero, List.getElem?_cons_succ]; rfl) (by kernel_rfl) (by kernel_rfl) (by kernel_rfl) (by intro _ _ _ h; exact h) (Or.inl ⟨by rfl, ?_⟩) hHeld ?_
                  rotate_left
                  · (intro w hSw; (try dsimp only at hSw); go_simp; try with_reducible rfl)
                  try simp only [Act.put, List.setIfInBounds_toArray, List.set_cons_zero, List.set_cons_succ]
                  refine wpAnyH_ready (rs := [16]) (by kernel_rfl) (by simp) ?_
                  refine AllReadyH.cons (by simp only [List.getElem?_toArray, List.getElem?_cons_zero, List.getElem?_cons_succ]; rfl) (fun K hK => ?_) AllReadyH.nil
                  rw [if_pos (by rfl)]
                  refine wp_store_segK 33 (.tmp 11) (.tmp 98) rfl wq.heap.size 0 rfl xs rfl zS 33 A5.out HZ.out HFT.out HON.out (fun w7 h7 k7 s7 => ?_)
                  rw [splice_whole _ _ HLZ.out] at h7
                  have hb7 : Below wq.heap.size wq w7 := HB5.out.trans (k7.below (fun k e => by rw [e]; exact Nat.le_refl _) HB5.out.size)
                  have V7 := Lib.hid (VD.out.go hb7)
                  have A7 := Lib.hid h7
                  have K7 := Lib.hid ((hb7.block qa (heap_lt KD.out)).trans KD.out)

                  clear h7 k7 s7 hb7
                  refine hK.out _ _ (HSS.out _ V7.out.old) (fun hHeld => ?_)
                  clear hK K
                  try simp only [Act.put, List.setIfInBounds_toArray, List.set_cons_zero, List.set_cons_succ]
                  refine wpAnyH_take (i := 17) (v := ?_) (by simp only [List.getElem?_toArray, List.getElem?_cons_zero, List.getElem?_cons_succ]; rfl) (by kernel_rfl) (by kernel_rfl) (by kernel_rfl) (by intro _ _ _ h; exact h) (Or.inl ⟨by rfl, ?_⟩) hHeld ?_
                  rotate_left
                  · (intro w hSw; (try dsimp only at hSw); go_simp; try with_reducible rfl)
                  try simp only [Act.put, List.setIfInBounds_toArray, List.set_cons_zero, List.set_cons_succ]
                  refine wpAnyH_done (by kernel_rfl) ?_ _
                  clear hHeld
                  go_wp2_with fail
                  go_meet
                  exact ⟨_, rfl, rfl, A7.out, V7.out, K7.out⟩
              case rest =>
                obtain ⟨qb, rfl, rfl, hqb, hV, hqa⟩ := hcut
                clear HV KQ
                have HV := Lib.hid hV
                have RA := Lib.hid (range_of hqa)
                have RB := Lib.hid (range_of hqb)
                clear hV hqa hqb
                go_wp2_with (first | (refine wpList_load_midG rfl 33 (.tmp 9) rfl qa 0 rfl xs _ RA.out Tryz.underlying33 rfl HZ.out ?_) | (refine wpList_load_midG rfl 33 (.tmp 11) rfl qb 0 rfl xs _ RB.out Tryz.underlying33 rfl HZ.out ?_) | (refine wpList_neqG rfl 33 (.tmp 100) (.tmp 101) rfl xs.toArray xs.toArray rfl rfl true eqgSl (HEQ.out _) ?_))
                exact ⟨⟨j + 1, s, by omega, by omega, by push_cast; rfl, HV.out⟩, by simp [Go.RowKit.intOf]; omega⟩
        · obtain rfl : j = 60 := by omega
          have i2 : (60 : Int) < n := by omega
          have d1 : decide (((60 : Nat) : Int) < n) = true := by simpa using i2
          have d2 : decide ((60 : Int) < n) = true := by simpa using i2
          have d3 : decide (60 < n) = true := by simpa using hlt
          go_wp2_with fail
          go_meet
          exact ⟨st, HV.out⟩
      · obtain rfl : j = n := by omega
        go_wp2_with fail
        go_meet
        exact ⟨st, HV.out⟩
  case rest =>
    obtain ⟨s, hV⟩ := hcut
    clear HV HA HL
    have HV := Lib.hid hV
    clear hV
    have HI := Lib.hid HV.out.m.inv
    have HOI := Lib.hid (items_ok HI.out)
    have HLN := Lib.hid (items_len HI.out)
    have HL8 := Lib.hid HI.out.len
    have B0 := Lib.hid HV.out.old.size
    go_wp2_with fail
    refine (items_p HV.out.m).mono ?_
    rintro e w3 ⟨v1, rfl, h1, hb1⟩
    have HV := Lib.hid (HV.out.go hb1)
    have B1 := Lib.hid (Nat.le_trans B0.out hb1.size)
    clear hb1
    go_wp2_with fail
    refine (items_p HV.out.m).mono ?_
    rintro e w4 ⟨v2, rfl, h2, hb2⟩
    have HV := Lib.hid (HV.out.go hb2)
    obtain ⟨A1, c1, rfl, -⟩ := row_items HOI.out h1
    obtain ⟨A2, c2, rfl, -⟩ := row_items HOI.out h2
    have T1 := Lib.hid (Two.of h1 B0.out h2 hb2 B1.out)
    have B2 := Lib.hid HV.out.old.size
    clear h1 h2 hb2
    go_wp2_with fail
    refine (ids_p HV.out.m).mono ?_
    rintro e w5 ⟨v3, rfl, h3, hb3⟩
    have HV := Lib.hid (HV.out.go hb3)
    have T1 := Lib.hid (T1.out.go hb3)
    have B3 := Lib.hid HV.out.old.size
    rw [idA_row] at h3
    clear hb3
    go_wp2_with fail
    refine (ids_p HV.out.m).mono ?_
    rintro e w6 ⟨v4, rfl, h4, hb4⟩
    have HV := Lib.hid (HV.out.go hb4)
    have T1 := Lib.hid (T1.out.go hb4)
    rw [idA_row] at h4
    obtain ⟨A3, c3, rfl, -⟩ := row_arr h3
    obtain ⟨A4, c4, rfl, -⟩ := row_arr h4
    have T2 := Lib.hid (Two.of h3 B2.out h4 hb4 B3.out)
    clear h3 h4 hb4
    go_wp2_with fail
    refine (ritems_p HV.out.r).mono ?_
    rintro e w7 ⟨v5, rfl, h5, hb5⟩
    have HV := Lib.hid (HV.out.go hb5)
    have T1 := Lib.hid (T1.out.go hb5)
    have T2 := Lib.hid (T2.out.go hb5)
    obtain ⟨A5, c5, rfl, h5, -⟩ := row_items HOI.out h5
    have R5 := Lib.hid h5
    clear h5 hb5
    go_wp2_with fail
    refine (sameItems (itemsM s) HOI.out (Nat.le_trans HLN.out (by decide)) A1 A5 c1 c5 _ _ w7 (row_itemsA HOI.out T1.out.r1) R5.out).mono ?_
    rintro e w8 ⟨rfl, hb⟩
    have HV := Lib.hid (HV.out.go hb)
    have T1 := Lib.hid (T1.out.go hb)
    have T2 := Lib.hid (T2.out.go hb)
    clear hb R5
    go_wp2_with fail
    have hb9 := (Below.refl w8.heap.size w8).alloc (Nat.le_refl _) (.cells #[.slice A1 (itemsM s).length c1, .slice A2 (itemsM s).length c2] 40)
    have HV := Lib.hid (HV.out.go hb9)
    have T1 := Lib.hid (T1.out.go hb9)
    have T2 := Lib.hid (T2.out.go hb9)
    refine (FlIt.apartIt _ W.heap.size 2 2 (some ⟨w8.heap.size, 0, none⟩) (twoOf A1 A2) (fun _ => (itemsM s).length) (twoOf c1 c2) (by decide) (by decide) (fun _ _ => Nat.le_trans HLN.out (by decide)) (two_arr (heap_new _ _)) (T1.out.rowsIt HOI.out) T1.out.dist HV.out.old.size).mono ?_
    rintro e w9 ⟨rfl, hk⟩
    have HV := Lib.hid (HV.out.foot hk fun k e => by obtain ⟨h1, cs, h2⟩ := T1.out.foot e; exact ⟨h1, cs, _, h2, .inl rfl⟩)
    have T2 := Lib.hid (T2.out.keeps hk fun k e => by obtain ⟨h1, cs, h2⟩ := T1.out.foot e; exact ⟨cs, _, h2, by decide⟩)
    clear hk T1 hb9
    go_wp2_with fail
    have hb9 := (Below.refl w9.heap.size w9).alloc (Nat.le_refl _) (.cells #[.slice A3 s.snaps.length c3, .slice A4 s.snaps.length c4] 37)
    have HV := Lib.hid (HV.out.go hb9)
    have T2 := Lib.hid (T2.out.go hb9)
    refine (apartI _ W.heap.size 2 2 (some ⟨w9.heap.size, 0, none⟩) (twoOf A3 A4) (fun _ => s.snaps.length) (twoOf c3 c4) (by decide) (by decide) (fun _ _ => Nat.le_trans HL8.out (by decide)) (two_arr (heap_new _ _)) T2.out.rowsI T2.out.dist HV.out.old.size).mono ?_
    rintro e w10 ⟨rfl, hk⟩
    have HV := Lib.hid (HV.out.foot hk fun k e => by obtain ⟨h1, cs, h2⟩ := T2.out.foot e; exact ⟨h1, cs, _, h2, .inr (.inl rfl)⟩)
    clear hk T2 hb9
    go_wp2_with fail
    refine (items_p HV.out.m).mono ?_
    rintro e w11 ⟨v6, rfl, h6, hb6⟩
    have HV := Lib.hid (HV.out.go hb6)
    obtain ⟨A6, c6, rfl, h6, -⟩ := row_items HOI.out h6
    have R6 := Lib.hid h6
    clear h6 hb6
    go_wp2_with fail
    refine (ritems_p HV.out.r).mono ?_
    rintro e w12 ⟨v7, rfl, h7, hb7⟩
    have HV := Lib.hid (HV.out.go hb7)
    have R6 := Lib.hid (R6.out.below hb7 (Nat.le_refl _))
    obtain ⟨A7, c7, rfl, h7, -⟩ := row_items HOI.out h7
    have R7 := Lib.hid h7
    clear h7 hb7
    go_wp2_with fail
    refine (sameItems (itemsM s) HOI.out (Nat.le_trans HLN.out (by decide)) A6 A7 c6 c7 _ _ w12 R6.out R7.out).mono ?_
    rintro e w13 ⟨rfl, hb⟩
    have HV := Lib.hid (HV.out.go hb)
    clear hb
    go_wp2_with fail
    refine (awake_p w13).mono ?_
    rintro e w14 ⟨rfl, hb⟩
    have HV := Lib.hid (HV.out.go hb)
    clear hb
    go_wp2_with fail
    go_ret
    exact ⟨rfl, HV.out.old⟩
end Go.Proofs.YtodhaaaodmcplaaGreat
