/- Layer 5 (lz): LzNumbers. -/
import Derived.Test.YtbaibkckigdndaaNa
import Derived.Test.YtbaibkckigdndaaAz
import Derived.Test.YtbaibkckigdndaaG
import Derived.Lib.AppendStr
namespace Go.Proofs.Ytbaibkckigdndaa
open Go.RowKit Go.Joins
def numL : List Int := [-9223372036854775808, -1, 0, 1, 2, 3, 4, 257, 258, 259, 32767, 32768, 32769, 9223372036854775807]
def numF (k : Nat) : Int := numL.getD k 0
theorem numF_hi (k : Nat) : numF k ≤ 9223372036854775807 := by
  by_cases h : k < 14
  · match k, h with
    | 0, _ | 1, _ | 2, _ | 3, _ | 4, _ | 5, _ | 6, _ | 7, _ | 8, _ | 9, _ | 10, _ | 11, _ | 12, _ | 13, _ => decide
  · unfold numF
    rw [List.getD_eq_getElem?_getD, List.getElem?_eq_none (by show 14 ≤ k; omega)]
    decide
/-- Four bytes, then great matches. -/
def fourF : Nat → Pc := fun k => if k < 4 then ⟨(k : Int) + 1, 0, 0⟩ else ⟨0, 258, 4⟩
theorem four_next (k : Nat) : flatS (pcsF fourF) (4 + k) ++ [.int .u8 0, .int .i64 258, .int .i64 4] = flatS (pcsF fourF) (4 + (k + 1)) := by
  show _ = flatS (pcsF fourF) (4 + k) ++ (fourF (4 + k)).cells
  have e : fourF (4 + k) = ⟨0, 258, 4⟩ := if_neg (by omega)
  rw [e]; rfl
theorem one_row {w : World} {base : Nat} {cs : Array Value} (n : Nat) (F : Nat → Pc) (h : base ≤ w.heap.size) (hm : n ≤ maxLen) (e : cs = (flatS (pcsF F) n).toArray) : (w.alloc (.cells cs 35)).ownsRow base 35 3 (.slice (some ⟨w.heap.size, 0, none⟩) n n) n (flatS (pcsF F) n) := by
  subst e
  have h := World.ownsRow_lit (e := 35) (size := 3) w (flatS (pcsF F) n).toArray n h hm (by rw [List.size_toArray]; exact flatS_len (wide_pcs F) n)
  rwa [List.toList_toArray] at h
theorem nums_at (j : Nat) (hj : j < 14) : (numL.map (Value.int .i64)).toArray[j]? = some (.int .i64 (numF j)) := by
  have h : numL[j]? = some (numF j) := by
    unfold numF
    rw [List.getD_eq_getElem?_getD, List.getElem?_eq_getElem (show j < numL.length from hj)]
    rfl
  rw [List.getElem?_toArray, List.getElem?_map, h]
  rfl
theorem piece_at {w : World} {b : Nat} {p : Pc} {t : TypeId} {z : Nat × Nat} (h : w.heap[b]? = some (.cells p.cells.toArray t z)) (j : Nat) (u : Value) (hu : p.cells[j]? = some u) : w.cell? ((⟨b, 0, none⟩ : Addr).add j) = some u := by
  have := block_cell h j u (by rw [List.getElem?_toArray]; exact hu)
  rw [Go.WideShapes.add_plain, Nat.zero_add]; exact this
def twoP (p q : Pc) : Nat → Pc := fun k => if k = 0 then p else q
theorem zeros_rep (k : Nat) : (Builtin.zeroCells (Value.int .u8 0).cells k).toList = List.replicate k (.int .u8 0) := by
  apply List.ext_getElem?
  intro i
  simp only [Builtin.zeroCells, Value.cells, Array.toList_map, Array.toList_range, List.getElem?_map, List.getElem?_replicate]
  by_cases h : i < k
  · rw [List.getElem?_range (by simp; omega), if_pos h]
    have : i % 1 = 0 := Nat.mod_one i
    simp [this]
  · rw [List.getElem?_eq_none (by simp; omega), if_neg h]; rfl
theorem zero_one (k : Nat) : ∀ u ∈ (Builtin.zeroCells (Value.int .u8 0).cells k).toList, u.oneCell' = true := by
  rw [zeros_rep]
  intro u hu
  rw [List.eq_of_mem_replicate hu]; rfl
theorem abc_row (k : Nat) : ([.int .u8 97, .int .u8 98, .int .u8 99] ++ (Builtin.zeroCells (Value.int .u8 0).cells k).toList) ++ Go.Lib.strCells ⟨#[97, 98, 99]⟩ = (List.range (3 + k + 3)).map fun j => Value.int .u8 (abcF k j) := by
  rw [zeros_rep]
  have e3 : Go.Lib.strCells ⟨#[97, 98, 99]⟩ = [.int .u8 97, .int .u8 98, .int .u8 99] := rfl
  rw [e3]
  apply List.ext_getElem?
  intro i
  rw [List.getElem?_map]
  by_cases h : i < 3 + k + 3
  · rw [List.getElem?_range h]
    show _ = some (Value.int .u8 (abcF k i))
    by_cases h1 : i < 3 + k
    · rw [List.getElem?_append_left (by simp; omega)]
      by_cases h2 : i < 3
      · rw [List.getElem?_append_left (by simp; omega)]
        match i, h2 with
        | 0, _ => simp [abcF]
        | 1, _ => rw [show abcF k 1 = 98 by unfold abcF; rw [if_neg (by omega), if_pos (by omega)]]; rfl
        | 2, _ => rw [show abcF k 2 = 99 by unfold abcF; rw [if_neg (by omega), if_neg (by omega), if_pos (by omega)]]; rfl
      · rw [List.getElem?_append_right (by simp; omega), List.getElem?_replicate, if_pos (by simp; omega)]
        rw [show abcF k i = 0 by unfold abcF; rw [if_neg (by omega), if_neg (by omega), if_neg (by omega)]]
    · rw [List.getElem?_append_right (by simp; omega)]
      obtain ⟨j, hj⟩ : ∃ j, i = 3 + k + j := ⟨i - (3 + k), by omega⟩
      subst hj
      rw [List.length_append, List.length_replicate, show 3 + k + j - ([Value.int .u8 97, Value.int .u8 98, Value.int .u8 99].length + k) = j by simp]
      match j, (by omega : j < 3) with
      | 0, _ => rw [show abcF k (3 + k + 0) = 97 by unfold abcF; rw [if_pos (by omega)]]; rfl
      | 1, _ => rw [show abcF k (3 + k + 1) = 98 by unfold abcF; rw [if_neg (by omega), if_pos (by omega)]]; rfl
      | 2, _ => rw [show abcF k (3 + k + 2) = 99 by unfold abcF; rw [if_neg (by omega), if_neg (by omega), if_pos (by omega)]]; rfl
  · rw [List.getElem?_eq_none (by simp; omega), List.getElem?_eq_none (by simp; omega)]; rfl
theorem full_next (k : Nat) {d : Int} (hd : d = 1 + (k : Int) % 2) : flatS (pcsF fullF) (2 + k) ++ [.int .u8 0, .int .i64 258, .int .i64 d] = flatS (pcsF fullF) (2 + (k + 1)) := by
  show _ = flatS (pcsF fullF) (2 + k) ++ (fullF (2 + k)).cells
  rw [full_2, hd]; rfl
theorem abcF_lo (k i : Nat) : 0 ≤ abcF k i ∧ abcF k i < 256 := by
  unfold abcF
  split
  · omega
  · split
    · omega
    · split <;> omega
theorem px_len {a b : Int} (k : Nat) (h : a ≤ 9223372036854775807) : (catP fourF 132 (twoP ⟨0, a, b⟩ ⟨9, 0, 0⟩) k).len ≤ 9223372036854775807 := by
  unfold catP
  split
  · unfold fourF
    split
    · exact (by decide : (0 : Int) ≤ 9223372036854775807)
    · exact (by decide : (258 : Int) ≤ 9223372036854775807)
  · unfold twoP
    split
    · exact h
    · exact (by decide : (0 : Int) ≤ 9223372036854775807)
theorem fours_one (k : Nat) : ∀ u ∈ flatS (pcsF fourF) k, u.oneCell' = true := cells_one3 fourF k
set_option maxRecDepth 100000 in
set_option maxHeartbeats 8000000 in
theorem numbers4 (W : World) : Calls Try.prog 4 #[] W fun e W' => e = .returned (.bool true) ∧ Below W.heap.size W W' := by
  obtain ⟨i1, ji, jz0, jz1, jz2⟩ := infoParts info35
  obtain ⟨i0, hi, hz0, hz1, hz2⟩ := infoParts info5
  have HI1 := Lib.hid (And.intro ji (And.intro jz0 (And.intro jz1 jz2)))
  have HI0 := Lib.hid (And.intro hi (And.intro hz0 (And.intro hz1 hz2)))
  clear ji jz0 jz1 jz2 hi hz0 hz1 hz2
  go_enter Try.func4, Try.ntmps4
  go_upto_region 2 with fail
  obtain ⟨w0, hw0⟩ : ∃ w, w = W.alloc (.cells (numL.map (Value.int .i64)).toArray 3) := ⟨_, rfl⟩
  have hw0' : W.alloc (.cells #[.int .i64 (-9223372036854775808), .int .i64 (-1), .int .i64 0, .int .i64 1, .int .i64 2, .int .i64 3, .int .i64 4, .int .i64 257, .int .i64 258, .int .i64 259, .int .i64 32767, .int .i64 32768, .int .i64 32769, .int .i64 9223372036854775807] 3) = w0 := hw0.symm
  have BW : Hid (Below W.heap.size W w0) := Lib.hid (by rw [hw0]; exact (Below.refl _ W).alloc (Nat.le_refl _) _)
  have HN0 : Hid (w0.heap[W.heap.size]? = some (.cells (numL.map (Value.int .i64)).toArray 3)) := Lib.hid (by rw [hw0]; exact heap_new W _)
  rw [hw0']
  obtain ⟨bn, hbn⟩ : ∃ b, b = W.heap.size := ⟨_, rfl⟩
  rw [← hbn] at HN0 ⊢
  have HBN := Lib.hid (heap_lt HN0.out)
  have HNUM : Hid (∀ wr, Below w0.heap.size w0 wr → ∀ j, j < 14 → wr.cell? ⟨bn, j, none⟩ = some (.int .i64 (numF j))) := Lib.hid fun wr hb j hj => block_cell ((hb.block bn HBN.out).trans HN0.out) j _ (nums_at j hj)
  clear hw0 hw0' hbn HN0
  go_wp2_with fail
  refine (one15 1 _).mono ?_
  rintro e x1 ⟨rfl, hb⟩
  have B1 := Lib.hid hb
  clear hb
  go_wp2_with fail
  refine (one15 2 _).mono ?_
  rintro e x2 ⟨rfl, hb⟩
  have B2 := Lib.hid (B1.out.trans (hb.mono B1.out.size))
  clear hb B1
  go_wp2_with fail
  refine (one15 3 _).mono ?_
  rintro e x3 ⟨rfl, hb⟩
  have B3 := Lib.hid (B2.out.trans (hb.mono B2.out.size))
  clear hb B2
  go_wp2_with fail
  refine (one15 4 _).mono ?_
  rintro e x4 ⟨rfl, hb⟩
  have B4 := Lib.hid (B3.out.trans (hb.mono B3.out.size))
  clear hb B3
  go_wp2_with fail
  have R4 := Lib.hid (one_row (w := x4) (base := w0.heap.size) 4 fourF B4.out.size (by decide) (cs := #[.int .u8 1, .int .i64 0, .int .i64 0, .int .u8 2, .int .i64 0, .int .i64 0, .int .u8 3, .int .i64 0, .int .i64 0, .int .u8 4, .int .i64 0, .int .i64 0]) rfl)
  have B5 : Hid (Below w0.heap.size w0 (x4.alloc (.cells #[.int .u8 1, .int .i64 0, .int .i64 0, .int .u8 2, .int .i64 0, .int .i64 0, .int .u8 3, .int .i64 0, .int .i64 0, .int .u8 4, .int .i64 0, .int .i64 0] 35))) := Lib.hid (B4.out.alloc B4.out.size _)
  go_loopw [2, 3] (fun v n wr => ∃ k : Nat, k ≤ 128 ∧ n = .int .i64 k ∧ wr.ownsRow w0.heap.size 35 3 v (4 + k) (flatS (pcsF fourF) (4 + k)) ∧ Below w0.heap.size w0 wr) (fun _ n _ => 128 - (intOf n).toNat)
  case atStart => exact ⟨0, by omega, rfl, R4.out, B5.out⟩
  case round =>
    clear R4 B5 B4
    obtain ⟨k, hk, rfl, hr, hb⟩ := hrel
    have HR := Lib.hid hr
    have HB := Lib.hid hb
    clear hr hb
    by_cases hlt : k < 128
    · have t1 : decide ((k : Int) < 128) = true := by simp; omega
      go_wp2_with fail
      refine (match16 258 4 wr).mono ?_
      rintro e x1 ⟨rfl, hb⟩
      have HB1 := Lib.hid (HB.out.trans (hb.mono HB.out.size))
      have HR1 := Lib.hid ((Keeps.fresh (S := fun _ => False) hb).row HR.out (fun _ _ h => h))
      clear hb HB HR
      have HR2 := Lib.hid (HR1.out.alloc (.cells #[.int .u8 0, .int .i64 258, .int .i64 4] 35))
      have CA : Hid (∀ ad, (some ⟨x1.heap.size, 0, none⟩ : Option Addr) = some ad → ∀ j u, ([.int .u8 0, .int .i64 258, .int .i64 4] : List Value)[j]? = some u → (x1.alloc (.cells #[.int .u8 0, .int .i64 258, .int .i64 4] 35)).cell? (ad.add j) = some u) := Lib.hid fun ad e j u hu => by
        cases e
        rw [Go.WideShapes.add_plain, Nat.zero_add]
        exact block_cell (heap_new x1 _) j u (by simpa using hu)
      have ON : Hid (∀ u ∈ ([.int .u8 0, .int .i64 258, .int .i64 4] : List Value), u.oneCell' = true) := Lib.hid (by simp [Value.oneCell'])
      have NN : Hid ((some ⟨x1.heap.size, 0, none⟩ : Option Addr) = none → (1 : Nat) = 0 ∧ (1 : Nat) = 0) := Lib.hid (fun h => by cases h)
      have L1 : Hid (4 + k + 1 ≤ maxLen) := Lib.hid (by unfold maxLen; omega)
      have L2 : Hid ((4 + k + 1) * 24 ≤ 140737488355328) := Lib.hid (by omega)
      have L3 : Hid (w0.heap.size ≤ (x1.alloc (.cells #[.int .u8 0, .int .i64 258, .int .i64 4] 35)).heap.size) := Lib.hid (by have := HB1.out.size; simp; omega)
      go_wp2_with (at_builtin; refine wpList_append_any rfl _ _ 22 rfl w0.heap.size 35 i1 (.agg #[.int .u8 0, .int .i64 0, .int .i64 0]) 3 24 Try.underlying22 HI1.out.1 HI1.out.2.1 HI1.out.2.2.1 HI1.out.2.2.2 rfl (by decide) _ (4 + k) _ rfl HR2.out (some ⟨x1.heap.size, 0, none⟩) 1 1 [.int .u8 0, .int .i64 258, .int .i64 4] rfl NN.out rfl CA.out ON.out L1.out L2.out L3.out ?_; intro v' x2 hown hgr)
      rw [four_next] at hown
      have HB2 := Lib.hid ((HB1.out.alloc HB1.out.size (.cells #[.int .u8 0, .int .i64 258, .int .i64 4] 35)).grown hgr L3.out (fun q e => (HR2.out.lt q e).1))
      go_roundw
      case rel => exact ⟨k + 1, by omega, by go_num, hown, HB2.out⟩
      case measure => simp [intOf]; omega
    · obtain rfl : k = 128 := by omega
      have hr132 : wr.ownsRow w0.heap.size 35 3 _ 132 (flatS (pcsF fourF) 132) := HR.out
      obtain ⟨A, c, rfl, ha, hnc, hcm, hA⟩ := srow_arr (wide_pcs _) hr132
      rw [show ((128 : Nat) : Int) = 128 from rfl]
      have HA := Lib.hid ha
      have HAN := Lib.hid hA
      have t1 : decide ((128 : Int) < 128) = false := by decide
      clear HR ha hA hr132
      obtain ⟨w1, hw1⟩ : ∃ w1, w1 = wr := ⟨_, rfl⟩
      rw [← hw1] at HA HB ⊢
      clear hw1
      have HNUM1 : Hid (∀ wr, Below w1.heap.size w1 wr → ∀ j, j < 14 → wr.cell? ⟨bn, j, none⟩ = some (.int .i64 (numF j))) := Lib.hid fun wr hb j hj => HNUM.out wr (HB.out.trans (hb.mono HB.out.size)) j hj
      have HL1 : Hid (∀ wr, Below w1.heap.size w1 wr → SArr wr wr.heap.size A 132 3 (pcsF fourF)) := Lib.hid fun wr hb => (HA.out.below hb (Nat.le_refl _)).more hb.size
      have BW1 := Lib.hid (BW.out.trans (HB.out.mono BW.out.size))
      clear HNUM HA HB BW
      go_wp2_with fail
      go_loopw [4] (fun i wr => ∃ k : Nat, k ≤ 14 ∧ i = .int .i64 k ∧ Below w1.heap.size w1 wr) (fun i _ => 14 - (intOf i).toNat)
      case atStart => exact ⟨0, by omega, rfl, Below.refl _ _⟩
      case round =>
        obtain ⟨i, hi, rfl, hb⟩ := hrel
        have BI := Lib.hid hb
        clear hb
        by_cases hlt : i < 14
        · have t1 : decide ((i : Int) < 14) = true := by simp; omega
          go_wp2_with fail
          go_loopw [5] (fun i wr => ∃ k : Nat, k ≤ 14 ∧ i = .int .i64 k ∧ Below w1.heap.size w1 wr) (fun i _ => 14 - (intOf i).toNat)
          case atStart => exact ⟨0, by omega, rfl, BI.out⟩
          case round =>
            clear BI
            obtain ⟨k, hk, rfl, hb⟩ := hrel
            have BK := Lib.hid hb
            clear hb
            by_cases hltk : k < 14
            · have t2 : decide ((k : Int) < 14) = true := by simp; omega
              have i1' : (0 : Int) ≤ i := by omega
              have i2' : (i : Int) < 14 := by omega
              have k1' : (0 : Int) ≤ k := by omega
              have k2' : (k : Int) < 14 := by omega
              have HC : Hid (∀ wr, Below w1.heap.size w1 wr → (fun w' => w'.cell? ⟨bn, i, none⟩ = some (.int .i64 (numF i)) ∧ w'.cell? ⟨bn, k, none⟩ = some (.int .i64 (numF k))) wr) := Lib.hid fun wr hb => ⟨HNUM1.out wr hb i hlt, HNUM1.out wr hb k hltk⟩
              have HALE := Lib.hid (numF_hi i)
              obtain ⟨a, ha⟩ : ∃ a, a = numF i := ⟨_, rfl⟩
              obtain ⟨b, hb⟩ : ∃ b, b = numF k := ⟨_, rfl⟩
              rw [← ha] at HC HALE
              rw [← hb] at HC
              clear ha hb
              go_wp2_with fail
              refine wp_region_held_drew (S := (fun w' => w'.cell? ⟨bn, i, none⟩ = some (.int .i64 a) ∧ w'.cell? ⟨bn, k, none⟩ = some (.int .i64 b))) follows (HC.out _ (below_drewN BK.out 1)) (fun hHeld => ?_)
              refine wpAnyH_take (i := 0) (v := ?_) (by simp only [List.getElem?_toArray, List.getElem?_cons_zero]; rfl) (by kernel_rfl) (by kernel_rfl) (by kernel_rfl) (by intro _ _ _ h; exact h) (Or.inl ⟨by rfl, ?_⟩) hHeld ?_
              rotate_left
              · (intro w hSw; (try dsimp only at hSw); go_simp; try with_reducible rfl)
              try simp only [Act.put, List.setIfInBounds_toArray, List.set_cons_zero, List.set_cons_succ]
              refine wpAnyH_take (i := 1) (v := ?_) (by simp only [List.getElem?_toArray, List.getElem?_cons_zero, List.getElem?_cons_succ]; rfl) (by kernel_rfl) (by kernel_rfl) (by kernel_rfl) (by intro _ _ _ h; exact h) (Or.inl ⟨by rfl, ?_⟩) hHeld ?_
              rotate_left
              · (intro w hSw; (try dsimp only at hSw); go_simp; try with_reducible rfl)
              try simp only [Act.put, List.setIfInBounds_toArray, List.set_cons_zero, List.set_cons_succ]
              refine wpAnyH_take (i := 2) (v := ?_) (by simp only [List.getElem?_toArray, List.getElem?_cons_zero, List.getElem?_cons_succ]; rfl) (by kernel_rfl) (by kernel_rfl) (by kernel_rfl) (by intro _ _ _ h; exact h) (Or.inl ⟨by rfl, ?_⟩) hHeld ?_
              rotate_left
              · (intro w hSw; (try dsimp only at hSw); go_simp; try with_reducible rfl)
              try simp only [Act.put, List.setIfInBounds_toArray, List.set_cons_zero, List.set_cons_succ]
              refine wpAnyH_take (i := 3) (v := ?_) (by simp only [List.getElem?_toArray, List.getElem?_cons_zero, List.getElem?_cons_succ]; rfl) (by kernel_rfl) (by kernel_rfl) (by kernel_rfl) (by intro _ _ _ h; exact h) (Or.inl ⟨by rfl, ?_⟩) hHeld ?_
              rotate_left
              · (intro w hSw; (try dsimp only at hSw); go_simp; try with_reducible rfl)
              try simp only [Act.put, List.setIfInBounds_toArray, List.set_cons_zero, List.set_cons_succ]
              refine wpAnyH_take (i := 4) (v := ?_) (by simp only [List.getElem?_toArray, List.getElem?_cons_zero, List.getElem?_cons_succ]; rfl) (by kernel_rfl) (by kernel_rfl) (by kernel_rfl) (by intro _ _ _ h; exact h) (Or.inl ⟨by rfl, ?_⟩) hHeld ?_
              rotate_left
              · (intro w hSw; (try dsimp only at hSw); go_simp; try with_reducible rfl)
              try simp only [Act.put, List.setIfInBounds_toArray, List.set_cons_zero, List.set_cons_succ]
              refine wpAnyH_take (i := 5) (v := ?_) (by simp only [List.getElem?_toArray, List.getElem?_cons_zero, List.getElem?_cons_succ]; rfl) (by kernel_rfl) (by kernel_rfl) (by kernel_rfl) (by intro _ _ _ h; exact h) (Or.inl ⟨by rfl, ?_⟩) hHeld ?_
              rotate_left
              · (intro w hSw; (try dsimp only at hSw); go_simp; try with_reducible rfl)
              try simp only [Act.put, List.setIfInBounds_toArray, List.set_cons_zero, List.set_cons_succ]
              refine wpAnyH_take (i := 6) (v := ?_) (by simp only [List.getElem?_toArray, List.getElem?_cons_zero, List.getElem?_cons_succ]; rfl) (by kernel_rfl) (by kernel_rfl) (by kernel_rfl) (by intro _ _ _ h; exact h) (Or.inl ⟨by rfl, ?_⟩) hHeld ?_
              rotate_left
              · (intro w hSw; (try dsimp only at hSw); go_simp; try with_reducible rfl)
              try simp only [Act.put, List.setIfInBounds_toArray, List.set_cons_zero, List.set_cons_succ]
              refine wpAnyH_take (i := 7) (v := ?_) (by simp only [List.getElem?_toArray, List.getElem?_cons_zero, List.getElem?_cons_succ]; rfl) (by kernel_rfl) (by kernel_rfl) (by kernel_rfl) (by intro _ _ _ h; exact h) (Or.inl ⟨by rfl, ?_⟩) hHeld ?_
              rotate_left
              · (intro w hSw; (try dsimp only at hSw); go_simp; try with_reducible rfl)
              try simp only [Act.put, List.setIfInBounds_toArray, List.set_cons_zero, List.set_cons_succ]
              refine wpAnyH_take (i := 8) (v := ?_) (by simp only [List.getElem?_toArray, List.getElem?_cons_zero, List.getElem?_cons_succ]; rfl) (by kernel_rfl) (by kernel_rfl) (by kernel_rfl) (by intro _ _ _ h; exact h) (Or.inl ⟨by rfl, ?_⟩) hHeld ?_
              rotate_left
              · (intro w hSw; (try dsimp only at hSw); go_simp; try with_reducible rfl)
              try simp only [Act.put, List.setIfInBounds_toArray, List.set_cons_zero, List.set_cons_succ]
              refine wpAnyH_ready (rs := [9]) (by kernel_rfl) (by simp) ?_
              refine AllReadyH.cons (by simp only [List.getElem?_toArray, List.getElem?_cons_zero, List.getElem?_cons_succ]; rfl) (fun K hK => ?_) AllReadyH.nil
              rw [if_pos (by rfl)]
              go_simp
              refine hK.out _ _ (HC.out _ ((below_drewN BK.out 1).alloc BK.out.size _)) (fun hHeld => ?_)
              clear hK K
              try simp only [Act.put, List.setIfInBounds_toArray, List.set_cons_zero, List.set_cons_succ]
              -- MARK
              refine wpAnyH_ready (rs := [10]) (by kernel_rfl) (by simp) ?_
              refine AllReadyH.cons (by simp only [List.getElem?_toArray, List.getElem?_cons_zero, List.getElem?_cons_succ]; rfl) (fun K hK => ?_) AllReadyH.nil
              rw [if_pos (by rfl)]
              go_simp
              refine hK.out _ _ (HC.out _ (below_drewN (BK.out.alloc BK.out.size _) 1)) (fun hHeld => ?_)
              clear hK K
              try simp only [Act.put, List.setIfInBounds_toArray, List.set_cons_zero, List.set_cons_succ]
              refine wpAnyH_done (by kernel_rfl) ?_ _
              clear hHeld
              obtain ⟨w2, hw2⟩ : ∃ w, w = (wr.alloc (.cells #[.int .u8 0, .int .i64 a, .int .i64 b] 35)).drew := ⟨_, rfl⟩
              have Q2 : Hid (w2.heap[wr.heap.size]? = some (.cells (Pc.mk 0 a b).cells.toArray 35 (0, 0))) := Lib.hid (by rw [hw2]; exact heap_new wr _)
              have BQw2 : Hid (Below w1.heap.size w1 w2) := Lib.hid (by rw [hw2]; exact below_drewN (BK.out.alloc BK.out.size _) 1)
              rw [← hw2]
              obtain ⟨q, hq⟩ : ∃ q, q = wr.heap.size := ⟨_, rfl⟩
              rw [← hq] at Q2 ⊢
              have HQW : Hid (w1.heap.size ≤ q) := Lib.hid (by rw [hq]; exact BK.out.size)
              clear hw2 hq HC BK
              have HS2 : Hid (∀ wr, Below w2.heap.size w2 wr → (fun w' => w'.cell? ⟨q, 0, none⟩ = some (.int .u8 0) ∧ w'.cell? ⟨q, 1, none⟩ = some (.int .i64 a) ∧ w'.cell? ⟨q, 2, none⟩ = some (.int .i64 b)) wr) := Lib.hid fun wr hb => by
                have h := (hb.block q (heap_lt Q2.out)).trans Q2.out
                exact ⟨block_cell h 0 _ rfl, block_cell h 1 _ rfl, block_cell h 2 _ rfl⟩
              go_wp2_with fail
              refine wp_region_held_drew (S := (fun w' => w'.cell? ⟨q, 0, none⟩ = some (.int .u8 0) ∧ w'.cell? ⟨q, 1, none⟩ = some (.int .i64 a) ∧ w'.cell? ⟨q, 2, none⟩ = some (.int .i64 b))) follows (HS2.out _ (below_drewN (Below.refl _ _) 1)) (fun hHeld => ?_)
              have D0 : Hid (Below w2.heap.size w2 w2.drew) := Lib.hid (below_drewN (Below.refl _ _) 1)
              refine wpAnyH_take (i := 1) (v := ?_) (by simp only [List.getElem?_toArray, List.getElem?_cons_zero, List.getElem?_cons_succ]; rfl) (by kernel_rfl) (by kernel_rfl) (by kernel_rfl) (by intro _ _ _ h; exact h) (Or.inl ⟨by rfl, ?_⟩) hHeld ?_
              rotate_left
              · (intro w hSw; (try dsimp only at hSw); go_simp; try with_reducible rfl)
              try simp only [Act.put, List.setIfInBounds_toArray, List.set_cons_zero, List.set_cons_succ]
              refine wpAnyH_ready (rs := [0]) (by kernel_rfl) (by simp) ?_
              refine AllReadyH.cons (by simp only [List.getElem?_toArray, List.getElem?_cons_zero]; rfl) (fun K hK => ?_) AllReadyH.nil
              rw [if_pos (by rfl)]
              go_simp
              refine (one15 7 _).mono ?_
              rintro e y1 ⟨rfl, hb⟩
              have D1 := Lib.hid (D0.out.trans (hb.mono D0.out.size))
              clear hb
              refine hK.out _ _ (HS2.out _ D1.out) (fun hHeld => ?_)
              clear hK K
              try simp only [Act.put, List.setIfInBounds_toArray, List.set_cons_zero, List.set_cons_succ]
              refine wpAnyH_ready (rs := [2]) (by kernel_rfl) (by simp) ?_
              refine AllReadyH.cons (by simp only [List.getElem?_toArray, List.getElem?_cons_zero, List.getElem?_cons_succ]; rfl) (fun K hK => ?_) AllReadyH.nil
              rw [if_pos (by rfl)]
              go_simp
              refine hK.out _ _ (HS2.out _ (D1.out.alloc D1.out.size _)) (fun hHeld => ?_)
              clear hK K
              try simp only [Act.put, List.setIfInBounds_toArray, List.set_cons_zero, List.set_cons_succ]
              refine wpAnyH_ready (rs := [3]) (by kernel_rfl) (by simp) ?_
              refine AllReadyH.cons (by simp only [List.getElem?_toArray, List.getElem?_cons_zero, List.getElem?_cons_succ]; rfl) (fun K hK => ?_) AllReadyH.nil
              rw [if_pos (by rfl)]
              go_simp
              refine (expands3 (twoP ⟨7, 0, 0⟩ ⟨0, a, b⟩) _ 2 2 _ (by omega) (fun h => by cases h) (by intro k hk; match k, hk with | 0, _ => exact (by decide : (0 : Int) ≤ 9223372036854775807) | 1, _ => exact HALE.out) (sarr_lit (heap_new y1 _) rfl)).mono ?_
              rintro e y2 ⟨rfl, hb⟩
              have D2 := Lib.hid ((D1.out.alloc D1.out.size _).trans (hb.mono (D1.out.alloc D1.out.size _).size))
              clear hb
              refine hK.out _ _ (HS2.out _ D2.out) (fun hHeld => ?_)
              clear hK K
              try simp only [Act.put, List.setIfInBounds_toArray, List.set_cons_zero, List.set_cons_succ]
              refine wpAnyH_take (i := 4) (v := ?_) (by simp only [List.getElem?_toArray, List.getElem?_cons_zero, List.getElem?_cons_succ]; rfl) (by kernel_rfl) (by kernel_rfl) (by kernel_rfl) (by intro _ _ _ h; exact h) (Or.inl ⟨by rfl, ?_⟩) hHeld ?_
              rotate_left
              · (intro w hSw; (try dsimp only at hSw); go_simp; try with_reducible rfl)
              try simp only [Act.put, List.setIfInBounds_toArray, List.set_cons_zero, List.set_cons_succ]
              refine wpAnyH_take (i := 5) (v := ?_) (by simp only [List.getElem?_toArray, List.getElem?_cons_zero, List.getElem?_cons_succ]; rfl) (by kernel_rfl) (by kernel_rfl) (by kernel_rfl) (by intro _ _ _ h; exact h) (Or.inl ⟨by rfl, ?_⟩) hHeld ?_
              rotate_left
              · (intro w hSw; (try dsimp only at hSw); go_simp; try with_reducible rfl)
              try simp only [Act.put, List.setIfInBounds_toArray, List.set_cons_zero, List.set_cons_succ]
              refine wpAnyH_take (i := 6) (v := ?_) (by simp only [List.getElem?_toArray, List.getElem?_cons_zero, List.getElem?_cons_succ]; rfl) (by kernel_rfl) (by kernel_rfl) (by kernel_rfl) (by intro _ _ _ h; exact h) (Or.inl ⟨by rfl, ?_⟩) hHeld ?_
              rotate_left
              · (intro w hSw; (try dsimp only at hSw); go_simp; try with_reducible rfl)
              try simp only [Act.put, List.setIfInBounds_toArray, List.set_cons_zero, List.set_cons_succ]
              refine wpAnyH_ready (rs := [7]) (by kernel_rfl) (by simp) ?_
              refine AllReadyH.cons (by simp only [List.getElem?_toArray, List.getElem?_cons_zero, List.getElem?_cons_succ]; rfl) (fun K hK => ?_) AllReadyH.nil
              rw [if_pos (by rfl)]
              go_simp
              refine (one15 7 _).mono ?_
              rintro e y3 ⟨rfl, hb⟩
              have D3 := Lib.hid (D2.out.trans (hb.mono D2.out.size))
              clear hb
              refine hK.out _ _ (HS2.out _ D3.out) (fun hHeld => ?_)
              clear hK K
              try simp only [Act.put, List.setIfInBounds_toArray, List.set_cons_zero, List.set_cons_succ]
              refine wpAnyH_ready (rs := [8]) (by kernel_rfl) (by simp) ?_
              refine AllReadyH.cons (by simp only [List.getElem?_toArray, List.getElem?_cons_zero, List.getElem?_cons_succ]; rfl) (fun K hK => ?_) AllReadyH.nil
              rw [if_pos (by rfl)]
              go_simp
              refine hK.out _ _ (HS2.out _ (D3.out.alloc D3.out.size _)) (fun hHeld => ?_)
              clear hK K
              try simp only [Act.put, List.setIfInBounds_toArray, List.set_cons_zero, List.set_cons_succ]
              refine wpAnyH_ready (rs := [9]) (by kernel_rfl) (by simp) ?_
              refine AllReadyH.cons (by simp only [List.getElem?_toArray, List.getElem?_cons_zero, List.getElem?_cons_succ]; rfl) (fun K hK => ?_) AllReadyH.nil
              rw [if_pos (by rfl)]
              go_simp
              refine (expands3 (twoP ⟨0, a, b⟩ ⟨7, 0, 0⟩) _ 2 2 _ (by omega) (fun h => by cases h) (by intro k hk; match k, hk with | 1, _ => exact (by decide : (0 : Int) ≤ 9223372036854775807) | 0, _ => exact HALE.out) (sarr_lit (heap_new y3 _) rfl)).mono ?_
              rintro e y4 ⟨rfl, hb⟩
              have D4 := Lib.hid ((D3.out.alloc D3.out.size _).trans (hb.mono (D3.out.alloc D3.out.size _).size))
              clear hb
              refine hK.out _ _ (HS2.out _ D4.out) (fun hHeld => ?_)
              clear hK K
              try simp only [Act.put, List.setIfInBounds_toArray, List.set_cons_zero, List.set_cons_succ]
              refine wpAnyH_take (i := 10) (v := ?_) (by simp only [List.getElem?_toArray, List.getElem?_cons_zero, List.getElem?_cons_succ]; rfl) (by kernel_rfl) (by kernel_rfl) (by kernel_rfl) (by intro _ _ _ h; exact h) (Or.inl ⟨by rfl, ?_⟩) hHeld ?_
              rotate_left
              · (intro w hSw; (try dsimp only at hSw); go_simp; try with_reducible rfl)
              try simp only [Act.put, List.setIfInBounds_toArray, List.set_cons_zero, List.set_cons_succ]
              refine wpAnyH_take (i := 11) (v := ?_) (by simp only [List.getElem?_toArray, List.getElem?_cons_zero, List.getElem?_cons_succ]; rfl) (by kernel_rfl) (by kernel_rfl) (by kernel_rfl) (by intro _ _ _ h; exact h) (Or.inl ⟨by rfl, ?_⟩) hHeld ?_
              rotate_left
              · (intro w hSw; (try dsimp only at hSw); go_simp; try with_reducible rfl)
              try simp only [Act.put, List.setIfInBounds_toArray, List.set_cons_zero, List.set_cons_succ]
              refine wpAnyH_done (by kernel_rfl) ?_ _
              clear hHeld
              have Q3 : Hid (y4.heap[q]? = _) := Lib.hid ((D4.out.block q (heap_lt Q2.out)).trans Q2.out)
              have BQw3 : Hid (Below w1.heap.size w1 y4) := Lib.hid (BQw2.out.trans (D4.out.mono BQw2.out.size))
              obtain ⟨w3, hw3⟩ : ∃ w, w = y4 := ⟨_, rfl⟩
              rw [← hw3] at Q3 BQw3 ⊢
              clear hw3 D0 D1 D2 D3 D4 HS2 Q2 BQw2
              have HS3 : Hid (∀ wr, Below w3.heap.size w3 wr → (fun w' => w'.cell? ⟨q, 0, none⟩ = some (.int .u8 0) ∧ w'.cell? ⟨q, 1, none⟩ = some (.int .i64 a) ∧ w'.cell? ⟨q, 2, none⟩ = some (.int .i64 b)) wr) := Lib.hid fun wr hb => by
                have h := (hb.block q (heap_lt Q3.out)).trans Q3.out
                exact ⟨block_cell h 0 _ rfl, block_cell h 1 _ rfl, block_cell h 2 _ rfl⟩
              obtain ⟨PX, hPX⟩ : ∃ P, P = catP fourF 132 (twoP ⟨0, a, b⟩ ⟨9, 0, 0⟩) := ⟨_, rfl⟩
              have eC : Hid (flatS (pcsF fourF) 132 ++ [.int .u8 0, .int .i64 a, .int .i64 b, .int .u8 9, .int .i64 0, .int .i64 0] = flatS (pcsF PX) (132 + 2)) := Lib.hid (by rw [hPX]; exact pcs_cat fourF (twoP ⟨0, a, b⟩ ⟨9, 0, 0⟩) 132 2)
              have HPX : Hid (∀ k, k < 134 → (PX k).len ≤ 9223372036854775807) := Lib.hid fun k _ => by rw [hPX]; exact px_len k HALE.out
              clear hPX
              obtain ⟨xs, hxs⟩ : ∃ xs, xs = outL (expP PX 134) := ⟨_, rfl⟩
              obtain ⟨ok, hok⟩ : ∃ ok, ok = (expP PX 134).isSome := ⟨_, rfl⟩
              obtain ⟨m, hm⟩ : ∃ m, m = xs.length := ⟨_, rfl⟩
              have hml : m ≤ 65536 := by rw [hm, hxs]; exact outL_len
              have HX : Hid (xs = outL (expP PX 134) ∧ ok = (expP PX 134).isSome) := Lib.hid ⟨hxs, hok⟩
              have HXM := Lib.hid hm
              clear hxs hok hm
              go_wp2_with fail
              refine wp_region_held_drew (S := (fun w' => w'.cell? ⟨q, 0, none⟩ = some (.int .u8 0) ∧ w'.cell? ⟨q, 1, none⟩ = some (.int .i64 a) ∧ w'.cell? ⟨q, 2, none⟩ = some (.int .i64 b))) follows (HS3.out _ (below_drewN (Below.refl _ _) 1)) (fun hHeld => ?_)
              have D0 : Hid (Below w3.heap.size w3 w3.drew) := Lib.hid (below_drewN (Below.refl _ _) 1)
              refine wpAnyH_take (i := 0) (v := ?_) (by simp only [List.getElem?_toArray, List.getElem?_cons_zero]; rfl) (by kernel_rfl) (by kernel_rfl) (by kernel_rfl) (by intro _ _ _ h; exact h) (Or.inl ⟨by rfl, ?_⟩) hHeld ?_
              rotate_left
              · (intro w hSw; (try dsimp only at hSw); go_simp; try with_reducible rfl)
              try simp only [Act.put, List.setIfInBounds_toArray, List.set_cons_zero, List.set_cons_succ]
              refine wpAnyH_take (i := 2) (v := ?_) (by simp only [List.getElem?_toArray, List.getElem?_cons_zero, List.getElem?_cons_succ]; rfl) (by kernel_rfl) (by kernel_rfl) (by kernel_rfl) (by intro _ _ _ h; exact h) (Or.inl ⟨by rfl, ?_⟩) hHeld ?_
              rotate_left
              · (intro w hSw; (try dsimp only at hSw); go_simp; try with_reducible rfl)
              try simp only [Act.put, List.setIfInBounds_toArray, List.set_cons_zero, List.set_cons_succ]
              refine wpAnyH_ready (rs := [1]) (by kernel_rfl) (by simp) ?_
              refine AllReadyH.cons (by simp only [List.getElem?_toArray, List.getElem?_cons_zero, List.getElem?_cons_succ]; rfl) (fun K hK => ?_) AllReadyH.nil
              rw [if_pos (by rfl)]
              go_simp
              refine (copy17 fourF A 132 c _ (by omega) HAN.out (HL1.out _ (BQw3.out.trans (D0.out.mono BQw3.out.size)))).mono ?_
              rintro e y1 ⟨v, rfl, hr, hb⟩
              have D1 := Lib.hid (D0.out.trans (hb.mono D0.out.size))
              have R1 := Lib.hid (row_more hr D0.out.size)
              clear hb hr
              refine hK.out _ _ (HS3.out _ D1.out) (fun hHeld => ?_)
              clear hK K
              try simp only [Act.put, List.setIfInBounds_toArray, List.set_cons_zero, List.set_cons_succ]
              refine wpAnyH_ready (rs := [3]) (by kernel_rfl) (by simp) ?_
              refine AllReadyH.cons (by simp only [List.getElem?_toArray, List.getElem?_cons_zero, List.getElem?_cons_succ]; rfl) (fun K hK => ?_) AllReadyH.nil
              rw [if_pos (by rfl)]
              go_simp
              refine (one15 9 _).mono ?_
              rintro e y2 ⟨rfl, hb⟩
              have D2 := Lib.hid (D1.out.trans (hb.mono D1.out.size))
              have R2 := Lib.hid ((Keeps.fresh (S := fun _ => False) hb).row R1.out (fun _ _ h => h))
              clear hb
              refine hK.out _ _ (HS3.out _ D2.out) (fun hHeld => ?_)
              clear hK K
              try simp only [Act.put, List.setIfInBounds_toArray, List.set_cons_zero, List.set_cons_succ]
              refine wpAnyH_ready (rs := [4]) (by kernel_rfl) (by simp) ?_
              refine AllReadyH.cons (by simp only [List.getElem?_toArray, List.getElem?_cons_zero, List.getElem?_cons_succ]; rfl) (fun K hK => ?_) AllReadyH.nil
              rw [if_pos (by rfl)]
              go_simp
              refine hK.out _ _ (HS3.out _ (D2.out.alloc D2.out.size _)) (fun hHeld => ?_)
              clear hK K
              try simp only [Act.put, List.setIfInBounds_toArray, List.set_cons_zero, List.set_cons_succ]
              have R3 := Lib.hid (R2.out.alloc (.cells #[.int .u8 0, .int .i64 a, .int .i64 b, .int .u8 9, .int .i64 0, .int .i64 0] 35))
              have CA : Hid (∀ j u, ([.int .u8 0, .int .i64 a, .int .i64 b, .int .u8 9, .int .i64 0, .int .i64 0] : List Value)[j]? = some u → (y2.alloc (.cells #[.int .u8 0, .int .i64 a, .int .i64 b, .int .u8 9, .int .i64 0, .int .i64 0] 35)).cell? ((⟨y2.heap.size, 0, none⟩ : Addr).add j) = some u) := Lib.hid fun j u hu => by
                rw [Go.WideShapes.add_plain, Nat.zero_add]
                exact block_cell (heap_new y2 _) j u (by simpa using hu)
              have ON : Hid (∀ u ∈ ([.int .u8 0, .int .i64 a, .int .i64 b, .int .u8 9, .int .i64 0, .int .i64 0] : List Value), u.oneCell' = true) := Lib.hid (by simp [Value.oneCell'])
              have D3 := Lib.hid (D2.out.alloc D2.out.size (.cells #[.int .u8 0, .int .i64 a, .int .i64 b, .int .u8 9, .int .i64 0, .int .i64 0] 35))
              refine wpAnyH_ready (rs := [5]) (by kernel_rfl) (by simp) ?_
              refine AllReadyH.cons (by simp only [List.getElem?_toArray, List.getElem?_cons_zero, List.getElem?_cons_succ]; rfl) (fun K hK => ?_) AllReadyH.nil
              rw [if_pos (by rfl)]
              refine wp_append_own _ (.tmp 72) (.tmp 75) 22 rfl w3.heap.size 35 i1 (.agg #[.int .u8 0, .int .i64 0, .int .i64 0]) 3 24 Try.underlying22 HI1.out.1 HI1.out.2.1 HI1.out.2.2.1 HI1.out.2.2.2 rfl (by decide) v 132 _ rfl R3.out ⟨y2.heap.size, 0, none⟩ 2 2 [.int .u8 0, .int .i64 a, .int .i64 b, .int .u8 9, .int .i64 0, .int .i64 0] rfl rfl CA.out ON.out (by unfold maxLen; omega) (by omega) D3.out.size ?_
              intro v' y3 hown hgr _
              rw [eC.out] at hown
              have D4 := Lib.hid (D3.out.grown hgr D3.out.size (fun k e => (R3.out.lt k e).1))
              obtain ⟨A3, c3, rfl, ha3, -⟩ := srow_arr (wide_pcs _) hown
              have HA3 := Lib.hid ha3
              clear hown hgr ha3
              refine hK.out _ _ (HS3.out _ D4.out) (fun hHeld => ?_)
              clear hK K
              try simp only [Act.put, List.setIfInBounds_toArray, List.set_cons_zero, List.set_cons_succ]
              refine wpAnyH_ready (rs := [6]) (by kernel_rfl) (by simp) ?_
              refine AllReadyH.cons (by simp only [List.getElem?_toArray, List.getElem?_cons_zero, List.getElem?_cons_succ]; rfl) (fun K hK => ?_) AllReadyH.nil
              rw [if_pos (by rfl)]
              go_simp
              refine (expand10 PX A3 134 c3 y3 (by omega) HA3.out).mono ?_
              rintro e y4 hx
              obtain ⟨A7, c7, rfl, r4, hb4⟩ := hx.one
              rw [← HX.out.1, ← HXM.out] at r4
              rw [← HX.out.1, ← HXM.out, ← HX.out.2]
              have R7 := Lib.hid r4
              have G7 := Lib.hid hb4.size
              have E7 := Lib.hid (D4.out.trans (hb4.mono D4.out.size))
              clear hx r4 hb4
              refine hK.out _ _ (HS3.out _ E7.out) (fun hHeld => ?_)
              clear hK K D0 D1 D2 D3 D4 R1 R2 R3 CA ON HA3
              try simp only [Act.put, List.setIfInBounds_toArray, List.set_cons_zero, List.set_cons_succ]
              refine wpAnyH_take (i := 7) (v := ?_) (by simp only [List.getElem?_toArray, List.getElem?_cons_zero, List.getElem?_cons_succ]; rfl) (by kernel_rfl) (by kernel_rfl) (by kernel_rfl) (by intro _ _ _ h; exact h) (Or.inl ⟨by rfl, ?_⟩) hHeld ?_
              rotate_left
              · (intro w hSw; (try dsimp only at hSw); go_simp; try with_reducible rfl)
              try simp only [Act.put, List.setIfInBounds_toArray, List.set_cons_zero, List.set_cons_succ]
              refine wpAnyH_take (i := 8) (v := ?_) (by simp only [List.getElem?_toArray, List.getElem?_cons_zero, List.getElem?_cons_succ]; rfl) (by kernel_rfl) (by kernel_rfl) (by kernel_rfl) (by intro _ _ _ h; exact h) (Or.inl ⟨by rfl, ?_⟩) hHeld ?_
              rotate_left
              · (intro w hSw; (try dsimp only at hSw); go_simp; try with_reducible rfl)
              try simp only [Act.put, List.setIfInBounds_toArray, List.set_cons_zero, List.set_cons_succ]
              refine wpAnyH_take (i := 9) (v := ?_) (by simp only [List.getElem?_toArray, List.getElem?_cons_zero, List.getElem?_cons_succ]; rfl) (by kernel_rfl) (by kernel_rfl) (by kernel_rfl) (by intro _ _ _ h; exact h) (Or.inl ⟨by rfl, ?_⟩) hHeld ?_
              rotate_left
              · (intro w hSw; (try dsimp only at hSw); go_simp; try with_reducible rfl)
              try simp only [Act.put, List.setIfInBounds_toArray, List.set_cons_zero, List.set_cons_succ]
              refine wpAnyH_take (i := 10) (v := ?_) (by simp only [List.getElem?_toArray, List.getElem?_cons_zero, List.getElem?_cons_succ]; rfl) (by kernel_rfl) (by kernel_rfl) (by kernel_rfl) (by intro _ _ _ h; exact h) (Or.inl ⟨by rfl, ?_⟩) hHeld ?_
              rotate_left
              · (intro w hSw; (try dsimp only at hSw); go_simp; try with_reducible rfl)
              try simp only [Act.put, List.setIfInBounds_toArray, List.set_cons_zero, List.set_cons_succ]
              refine wpAnyH_take (i := 11) (v := ?_) (by simp only [List.getElem?_toArray, List.getElem?_cons_zero, List.getElem?_cons_succ]; rfl) (by kernel_rfl) (by kernel_rfl) (by kernel_rfl) (by intro _ _ _ h; exact h) (Or.inl ⟨by rfl, ?_⟩) hHeld ?_
              rotate_left
              · (intro w hSw; (try dsimp only at hSw); go_simp; try with_reducible rfl)
              try simp only [Act.put, List.setIfInBounds_toArray, List.set_cons_zero, List.set_cons_succ]
              refine wpAnyH_done (by kernel_rfl) ?_ _
              clear hHeld
              have Q4 : Hid (y4.heap[q]? = _) := Lib.hid ((E7.out.block q (heap_lt Q3.out)).trans Q3.out)
              have BQw4 : Hid (Below w1.heap.size w1 y4) := Lib.hid (BQw3.out.trans (E7.out.mono BQw3.out.size))
              obtain ⟨w4, hw4⟩ : ∃ w, w = y4 := ⟨_, rfl⟩
              rw [← hw4] at Q4 BQw4 R7 ⊢
              clear hw4 E7 G7 HS3 Q3 BQw3
              have HS4 : Hid (∀ wr, Below w4.heap.size w4 wr → (fun w' => w'.cell? ⟨q, 0, none⟩ = some (.int .u8 0) ∧ w'.cell? ⟨q, 1, none⟩ = some (.int .i64 a) ∧ w'.cell? ⟨q, 2, none⟩ = some (.int .i64 b)) wr) := Lib.hid fun wr hb => by
                have h := (hb.block q (heap_lt Q4.out)).trans Q4.out
                exact ⟨block_cell h 0 _ rfl, block_cell h 1 _ rfl, block_cell h 2 _ rfl⟩
              go_wp2_with fail
              refine wp_region_held_drew (S := (fun w' => w'.cell? ⟨q, 0, none⟩ = some (.int .u8 0) ∧ w'.cell? ⟨q, 1, none⟩ = some (.int .i64 a) ∧ w'.cell? ⟨q, 2, none⟩ = some (.int .i64 b))) follows (HS4.out _ (below_drewN (Below.refl _ _) 1)) (fun hHeld => ?_)
              have D0 : Hid (Below w4.heap.size w4 w4.drew) := Lib.hid (below_drewN (Below.refl _ _) 1)
              refine wpAnyH_take (i := 0) (v := ?_) (by simp only [List.getElem?_toArray, List.getElem?_cons_zero]; rfl) (by kernel_rfl) (by kernel_rfl) (by kernel_rfl) (by intro _ _ _ h; exact h) (Or.inl ⟨by rfl, ?_⟩) hHeld ?_
              rotate_left
              · (intro w hSw; (try dsimp only at hSw); go_simp; try with_reducible rfl)
              try simp only [Act.put, List.setIfInBounds_toArray, List.set_cons_zero, List.set_cons_succ]
              refine wpAnyH_take (i := 2) (v := ?_) (by simp only [List.getElem?_toArray, List.getElem?_cons_zero, List.getElem?_cons_succ]; rfl) (by kernel_rfl) (by kernel_rfl) (by kernel_rfl) (by intro _ _ _ h; exact h) (Or.inl ⟨by rfl, ?_⟩) hHeld ?_
              rotate_left
              · (intro w hSw; (try dsimp only at hSw); go_simp; try with_reducible rfl)
              try simp only [Act.put, List.setIfInBounds_toArray, List.set_cons_zero, List.set_cons_succ]
              refine wpAnyH_ready (rs := [1]) (by kernel_rfl) (by simp) ?_
              refine AllReadyH.cons (by simp only [List.getElem?_toArray, List.getElem?_cons_zero, List.getElem?_cons_succ]; rfl) (fun K hK => ?_) AllReadyH.nil
              rw [if_pos (by rfl)]
              go_simp
              refine (copy17 fourF A 132 c _ (by omega) HAN.out (HL1.out _ (BQw4.out.trans (D0.out.mono BQw4.out.size)))).mono ?_
              rintro e y1 ⟨v, rfl, hr, hb⟩
              have D1 := Lib.hid (D0.out.trans (hb.mono D0.out.size))
              have R1 := Lib.hid (row_more hr D0.out.size)
              clear hb hr
              refine hK.out _ _ (HS4.out _ D1.out) (fun hHeld => ?_)
              clear hK K
              try simp only [Act.put, List.setIfInBounds_toArray, List.set_cons_zero, List.set_cons_succ]
              refine wpAnyH_ready (rs := [3]) (by kernel_rfl) (by simp) ?_
              refine AllReadyH.cons (by simp only [List.getElem?_toArray, List.getElem?_cons_zero, List.getElem?_cons_succ]; rfl) (fun K hK => ?_) AllReadyH.nil
              rw [if_pos (by rfl)]
              go_simp
              refine (one15 9 _).mono ?_
              rintro e y2 ⟨rfl, hb⟩
              have D2 := Lib.hid (D1.out.trans (hb.mono D1.out.size))
              have R2 := Lib.hid ((Keeps.fresh (S := fun _ => False) hb).row R1.out (fun _ _ h => h))
              clear hb
              refine hK.out _ _ (HS4.out _ D2.out) (fun hHeld => ?_)
              clear hK K
              try simp only [Act.put, List.setIfInBounds_toArray, List.set_cons_zero, List.set_cons_succ]
              refine wpAnyH_ready (rs := [4]) (by kernel_rfl) (by simp) ?_
              refine AllReadyH.cons (by simp only [List.getElem?_toArray, List.getElem?_cons_zero, List.getElem?_cons_succ]; rfl) (fun K hK => ?_) AllReadyH.nil
              rw [if_pos (by rfl)]
              go_simp
              refine hK.out _ _ (HS4.out _ (D2.out.alloc D2.out.size _)) (fun hHeld => ?_)
              clear hK K
              try simp only [Act.put, List.setIfInBounds_toArray, List.set_cons_zero, List.set_cons_succ]
              have R3 := Lib.hid (R2.out.alloc (.cells #[.int .u8 0, .int .i64 a, .int .i64 b, .int .u8 9, .int .i64 0, .int .i64 0] 35))
              have CA : Hid (∀ j u, ([.int .u8 0, .int .i64 a, .int .i64 b, .int .u8 9, .int .i64 0, .int .i64 0] : List Value)[j]? = some u → (y2.alloc (.cells #[.int .u8 0, .int .i64 a, .int .i64 b, .int .u8 9, .int .i64 0, .int .i64 0] 35)).cell? ((⟨y2.heap.size, 0, none⟩ : Addr).add j) = some u) := Lib.hid fun j u hu => by
                rw [Go.WideShapes.add_plain, Nat.zero_add]
                exact block_cell (heap_new y2 _) j u (by simpa using hu)
              have ON : Hid (∀ u ∈ ([.int .u8 0, .int .i64 a, .int .i64 b, .int .u8 9, .int .i64 0, .int .i64 0] : List Value), u.oneCell' = true) := Lib.hid (by simp [Value.oneCell'])
              have D3 := Lib.hid (D2.out.alloc D2.out.size (.cells #[.int .u8 0, .int .i64 a, .int .i64 b, .int .u8 9, .int .i64 0, .int .i64 0] 35))
              refine wpAnyH_ready (rs := [5]) (by kernel_rfl) (by simp) ?_
              refine AllReadyH.cons (by simp only [List.getElem?_toArray, List.getElem?_cons_zero, List.getElem?_cons_succ]; rfl) (fun K hK => ?_) AllReadyH.nil
              rw [if_pos (by rfl)]
              refine wp_append_own _ (.tmp 82) (.tmp 85) 22 rfl w4.heap.size 35 i1 (.agg #[.int .u8 0, .int .i64 0, .int .i64 0]) 3 24 Try.underlying22 HI1.out.1 HI1.out.2.1 HI1.out.2.2.1 HI1.out.2.2.2 rfl (by decide) v 132 _ rfl R3.out ⟨y2.heap.size, 0, none⟩ 2 2 [.int .u8 0, .int .i64 a, .int .i64 b, .int .u8 9, .int .i64 0, .int .i64 0] rfl rfl CA.out ON.out (by unfold maxLen; omega) (by omega) D3.out.size ?_
              intro v' y3 hown hgr _
              rw [eC.out] at hown
              have D4 := Lib.hid (D3.out.grown hgr D3.out.size (fun k e => (R3.out.lt k e).1))
              obtain ⟨A3, c3, rfl, ha3, -⟩ := srow_arr (wide_pcs _) hown
              have HA3 := Lib.hid ha3
              clear hown hgr ha3
              refine hK.out _ _ (HS4.out _ D4.out) (fun hHeld => ?_)
              clear hK K
              try simp only [Act.put, List.setIfInBounds_toArray, List.set_cons_zero, List.set_cons_succ]
              refine wpAnyH_ready (rs := [6]) (by kernel_rfl) (by simp) ?_
              refine AllReadyH.cons (by simp only [List.getElem?_toArray, List.getElem?_cons_zero, List.getElem?_cons_succ]; rfl) (fun K hK => ?_) AllReadyH.nil
              rw [if_pos (by rfl)]
              go_simp
              refine (expand11 PX A3 134 c3 y3 (by omega) HPX.out HA3.out).mono ?_
              rintro e y4 hx
              obtain ⟨A9, c9, rfl, r4, hb4⟩ := hx.one
              rw [← HX.out.1, ← HXM.out] at r4
              rw [← HX.out.1, ← HXM.out, ← HX.out.2]
              have R9 := Lib.hid r4
              have G9 := Lib.hid hb4.size
              have E9 := Lib.hid (D4.out.trans (hb4.mono D4.out.size))
              clear hx r4 hb4
              refine hK.out _ _ (HS4.out _ E9.out) (fun hHeld => ?_)
              clear hK K D0 D1 D2 D3 D4 R1 R2 R3 CA ON HA3
              try simp only [Act.put, List.setIfInBounds_toArray, List.set_cons_zero, List.set_cons_succ]
              refine wpAnyH_take (i := 7) (v := ?_) (by simp only [List.getElem?_toArray, List.getElem?_cons_zero, List.getElem?_cons_succ]; rfl) (by kernel_rfl) (by kernel_rfl) (by kernel_rfl) (by intro _ _ _ h; exact h) (Or.inl ⟨by rfl, ?_⟩) hHeld ?_
              rotate_left
              · (intro w hSw; (try dsimp only at hSw); go_simp; try with_reducible rfl)
              try simp only [Act.put, List.setIfInBounds_toArray, List.set_cons_zero, List.set_cons_succ]
              refine wpAnyH_take (i := 8) (v := ?_) (by simp only [List.getElem?_toArray, List.getElem?_cons_zero, List.getElem?_cons_succ]; rfl) (by kernel_rfl) (by kernel_rfl) (by kernel_rfl) (by intro _ _ _ h; exact h) (Or.inl ⟨by rfl, ?_⟩) hHeld ?_
              rotate_left
              · (intro w hSw; (try dsimp only at hSw); go_simp; try with_reducible rfl)
              try simp only [Act.put, List.setIfInBounds_toArray, List.set_cons_zero, List.set_cons_succ]
              refine wpAnyH_take (i := 9) (v := ?_) (by simp only [List.getElem?_toArray, List.getElem?_cons_zero, List.getElem?_cons_succ]; rfl) (by kernel_rfl) (by kernel_rfl) (by kernel_rfl) (by intro _ _ _ h; exact h) (Or.inl ⟨by rfl, ?_⟩) hHeld ?_
              rotate_left
              · (intro w hSw; (try dsimp only at hSw); go_simp; try with_reducible rfl)
              try simp only [Act.put, List.setIfInBounds_toArray, List.set_cons_zero, List.set_cons_succ]
              refine wpAnyH_take (i := 10) (v := ?_) (by simp only [List.getElem?_toArray, List.getElem?_cons_zero, List.getElem?_cons_succ]; rfl) (by kernel_rfl) (by kernel_rfl) (by kernel_rfl) (by intro _ _ _ h; exact h) (Or.inl ⟨by rfl, ?_⟩) hHeld ?_
              rotate_left
              · (intro w hSw; (try dsimp only at hSw); go_simp; try with_reducible rfl)
              try simp only [Act.put, List.setIfInBounds_toArray, List.set_cons_zero, List.set_cons_succ]
              refine wpAnyH_take (i := 11) (v := ?_) (by simp only [List.getElem?_toArray, List.getElem?_cons_zero, List.getElem?_cons_succ]; rfl) (by kernel_rfl) (by kernel_rfl) (by kernel_rfl) (by intro _ _ _ h; exact h) (Or.inl ⟨by rfl, ?_⟩) hHeld ?_
              rotate_left
              · (intro w hSw; (try dsimp only at hSw); go_simp; try with_reducible rfl)
              try simp only [Act.put, List.setIfInBounds_toArray, List.set_cons_zero, List.set_cons_succ]
              refine wpAnyH_done (by kernel_rfl) ?_ _
              clear hHeld
              have Q5 : Hid (y4.heap[q]? = _) := Lib.hid ((E9.out.block q (heap_lt Q4.out)).trans Q4.out)
              have BQw5 : Hid (Below w1.heap.size w1 y4) := Lib.hid (BQw4.out.trans (E9.out.mono BQw4.out.size))
              have R75 := Lib.hid ((Keeps.fresh (S := fun _ => False) E9.out).row R7.out (fun _ _ h => h))
              obtain ⟨w5, hw5⟩ : ∃ w, w = y4 := ⟨_, rfl⟩
              rw [← hw5] at Q5 BQw5 R75 R9 ⊢
              clear hw5 E9 G9 HS4 Q4 BQw4 R7 HX HPX eC
              have c0 : w5.cell? ⟨q, 0, none⟩ = some (.int .u8 0) := block_cell Q5.out 0 _ rfl
              have f0 : w5.frozen? ⟨q, 0, none⟩ = false := frozen_of_row w5 _ _ _ _ Q5.out
              go_upto_region 19 with fail
              clear c0 f0
              obtain ⟨w6, hw6⟩ : ∃ w, w = w5.setCell ⟨q, 0, none⟩ (.int .u8 1) := ⟨_, rfl⟩
              have Q6 : Hid (w6.heap[q]? = some (.cells (Pc.mk 1 a b).cells.toArray 35 (0, 0))) := Lib.hid (by rw [hw6]; exact set_blk Q5.out)
              have hk6 : Keeps (fun k => k = q) w5 w6 := by rw [hw6]; exact Keeps.setCell _ _ _ _ rfl
              have R76 := Lib.hid (hk6.row R75.out (fun k h1 h2 => row_ne_cells R75.out Q5.out (by decide) (h2 ▸ h1)))
              have R96 := Lib.hid (hk6.row R9.out (fun k h1 h2 => row_ne_cells R9.out Q5.out (by decide) (h2 ▸ h1)))
              have BQw6 : Hid (Below w1.heap.size w1 w6) := Lib.hid (BQw5.out.trans (hk6.below (fun k hk => by rw [hk]; exact HQW.out) BQw5.out.size))
              rw [← hw6]
              clear hw6 hk6 Q5 BQw5 R75 R9
              have HS6 : Hid (∀ wr, Below w6.heap.size w6 wr → (fun w' => w'.cell? ⟨q, 0, none⟩ = some (.int .u8 1) ∧ w'.cell? ⟨q, 1, none⟩ = some (.int .i64 a) ∧ w'.cell? ⟨q, 2, none⟩ = some (.int .i64 b)) wr) := Lib.hid fun wr hb => by
                have h := (hb.block q (heap_lt Q6.out)).trans Q6.out
                exact ⟨block_cell h 0 _ rfl, block_cell h 1 _ rfl, block_cell h 2 _ rfl⟩
              refine wp_region_held_drew (S := (fun w' => w'.cell? ⟨q, 0, none⟩ = some (.int .u8 1) ∧ w'.cell? ⟨q, 1, none⟩ = some (.int .i64 a) ∧ w'.cell? ⟨q, 2, none⟩ = some (.int .i64 b))) follows (HS6.out _ (below_drewN (Below.refl _ _) 1)) (fun hHeld => ?_)
              have D0 : Hid (Below w6.heap.size w6 w6.drew) := Lib.hid (below_drewN (Below.refl _ _) 1)
              refine wpAnyH_take (i := 0) (v := ?_) (by simp only [List.getElem?_toArray, List.getElem?_cons_zero]; rfl) (by kernel_rfl) (by kernel_rfl) (by kernel_rfl) (by intro _ _ _ h; exact h) (Or.inl ⟨by rfl, ?_⟩) hHeld ?_
              rotate_left
              · (intro w hSw; (try dsimp only at hSw); go_simp; try with_reducible rfl)
              try simp only [Act.put, List.setIfInBounds_toArray, List.set_cons_zero, List.set_cons_succ]
              refine wpAnyH_take (i := 1) (v := ?_) (by simp only [List.getElem?_toArray, List.getElem?_cons_zero, List.getElem?_cons_succ]; rfl) (by kernel_rfl) (by kernel_rfl) (by kernel_rfl) (by intro _ _ _ h; exact h) (Or.inl ⟨by rfl, ?_⟩) hHeld ?_
              rotate_left
              · (intro w hSw; (try dsimp only at hSw); go_simp; try with_reducible rfl)
              try simp only [Act.put, List.setIfInBounds_toArray, List.set_cons_zero, List.set_cons_succ]
              refine wpAnyH_take (i := 2) (v := .bool false) (by simp only [List.getElem?_toArray, List.getElem?_cons_zero, List.getElem?_cons_succ]; rfl) (by kernel_rfl) (by kernel_rfl) (by kernel_rfl) (by intro _ _ _ h; exact h) (Or.inl ⟨by rfl, ?_⟩) hHeld ?_
              · (intro w hSw; (try dsimp only at hSw); cases ok <;> (go_simp; try with_reducible rfl))
              try simp only [Act.put, List.setIfInBounds_toArray, List.set_cons_zero, List.set_cons_succ]
              refine wpAnyH_take (i := 3) (v := ?_) (by simp only [List.getElem?_toArray, List.getElem?_cons_zero, List.getElem?_cons_succ]; rfl) (by kernel_rfl) (by kernel_rfl) (by kernel_rfl) (by intro _ _ _ h; exact h) (Or.inl ⟨by rfl, ?_⟩) hHeld ?_
              rotate_left
              · (intro w hSw; (try dsimp only at hSw); go_simp; try with_reducible rfl)
              try simp only [Act.put, List.setIfInBounds_toArray, List.set_cons_zero, List.set_cons_succ]
              refine wpAnyH_take (i := 4) (v := ?_) (by simp only [List.getElem?_toArray, List.getElem?_cons_zero, List.getElem?_cons_succ]; rfl) (by kernel_rfl) (by kernel_rfl) (by kernel_rfl) (by intro _ _ _ h; exact h) (Or.inl ⟨by rfl, ?_⟩) hHeld ?_
              rotate_left
              · (intro w hSw; (try dsimp only at hSw); go_simp; try with_reducible rfl)
              try simp only [Act.put, List.setIfInBounds_toArray, List.set_cons_zero, List.set_cons_succ]
              refine wpAnyH_take (i := 5) (v := ?_) (by simp only [List.getElem?_toArray, List.getElem?_cons_zero, List.getElem?_cons_succ]; rfl) (by kernel_rfl) (by kernel_rfl) (by kernel_rfl) (by intro _ _ _ h; exact h) (Or.inl ⟨by rfl, ?_⟩) hHeld ?_
              rotate_left
              · (intro w hSw; (try dsimp only at hSw); go_simp; try with_reducible rfl)
              try simp only [Act.put, List.setIfInBounds_toArray, List.set_cons_zero, List.set_cons_succ]
              refine wpAnyH_ready (rs := [6]) (by kernel_rfl) (by simp) ?_
              refine AllReadyH.cons (by simp only [List.getElem?_toArray, List.getElem?_cons_zero, List.getElem?_cons_succ]; rfl) (fun K hK => ?_) AllReadyH.nil
              rw [if_pos (by rfl)]
              go_simp
              refine (same12 (fun j => xs.getD j 0) A7 A9 m c7 c9 _ _ w6.drew (by omega) (row_bytes R76.out HXM.out.symm) (row_bytes R96.out HXM.out.symm)).mono ?_
              rintro e y1 ⟨rfl, qq, rfl⟩
              have D1' := Lib.hid (below_drewN D0.out qq)
              have D1 : Hid (Below w6.heap.size w6 (w6.drewN (1 + qq))) := Lib.hid (below_drewN (Below.refl _ _) _)
              refine hK.out _ _ (HS6.out _ D1'.out) (fun hHeld => ?_)
              clear D1'
              clear hK K
              try simp only [Act.put, List.setIfInBounds_toArray, List.set_cons_zero, List.set_cons_succ]
              refine wpAnyH_take (i := 7) (v := ?_) (by simp only [List.getElem?_toArray, List.getElem?_cons_zero, List.getElem?_cons_succ]; rfl) (by kernel_rfl) (by kernel_rfl) (by kernel_rfl) (by intro _ _ _ h; exact h) (Or.inl ⟨by rfl, ?_⟩) hHeld ?_
              rotate_left
              · (intro w hSw; (try dsimp only at hSw); go_simp; try with_reducible rfl)
              try simp only [Act.put, List.setIfInBounds_toArray, List.set_cons_zero, List.set_cons_succ]
              refine wpAnyH_take (i := 8) (v := ?_) (by simp only [List.getElem?_toArray, List.getElem?_cons_zero, List.getElem?_cons_succ]; rfl) (by kernel_rfl) (by kernel_rfl) (by kernel_rfl) (by intro _ _ _ h; exact h) (Or.inl ⟨by rfl, ?_⟩) hHeld ?_
              rotate_left
              · (intro w hSw; (try dsimp only at hSw); go_simp; try with_reducible rfl)
              try simp only [Act.put, List.setIfInBounds_toArray, List.set_cons_zero, List.set_cons_succ]
              refine wpAnyH_take (i := 9) (v := ?_) (by simp only [List.getElem?_toArray, List.getElem?_cons_zero, List.getElem?_cons_succ]; rfl) (by kernel_rfl) (by kernel_rfl) (by kernel_rfl) (by intro _ _ _ h; exact h) (Or.inl ⟨by rfl, ?_⟩) hHeld ?_
              rotate_left
              · (intro w hSw; (try dsimp only at hSw); go_simp; try with_reducible rfl)
              try simp only [Act.put, List.setIfInBounds_toArray, List.set_cons_zero, List.set_cons_succ]
              refine wpAnyH_take (i := 11) (v := ?_) (by simp only [List.getElem?_toArray, List.getElem?_cons_zero, List.getElem?_cons_succ]; rfl) (by kernel_rfl) (by kernel_rfl) (by kernel_rfl) (by intro _ _ _ h; exact h) (Or.inl ⟨by rfl, ?_⟩) hHeld ?_
              rotate_left
              · (intro w hSw; (try dsimp only at hSw); go_simp; try with_reducible rfl)
              try simp only [Act.put, List.setIfInBounds_toArray, List.set_cons_zero, List.set_cons_succ]
              refine wpAnyH_ready (rs := [10]) (by kernel_rfl) (by simp) ?_
              refine AllReadyH.cons (by simp only [List.getElem?_toArray, List.getElem?_cons_zero, List.getElem?_cons_succ]; rfl) (fun K hK => ?_) AllReadyH.nil
              rw [if_pos (by rfl)]
              go_simp
              refine (one15 7 _).mono ?_
              rintro e y2 ⟨rfl, hb⟩
              have D2 := Lib.hid (D1.out.trans (hb.mono D1.out.size))
              clear hb
              refine hK.out _ _ (HS6.out _ D2.out) (fun hHeld => ?_)
              clear hK K
              try simp only [Act.put, List.setIfInBounds_toArray, List.set_cons_zero, List.set_cons_succ]
              refine wpAnyH_ready (rs := [12]) (by kernel_rfl) (by simp) ?_
              refine AllReadyH.cons (by simp only [List.getElem?_toArray, List.getElem?_cons_zero, List.getElem?_cons_succ]; rfl) (fun K hK => ?_) AllReadyH.nil
              rw [if_pos (by rfl)]
              go_simp
              refine hK.out _ _ (HS6.out _ (D2.out.alloc D2.out.size _)) (fun hHeld => ?_)
              clear hK K
              try simp only [Act.put, List.setIfInBounds_toArray, List.set_cons_zero, List.set_cons_succ]
              refine wpAnyH_ready (rs := [13]) (by kernel_rfl) (by simp) ?_
              refine AllReadyH.cons (by simp only [List.getElem?_toArray, List.getElem?_cons_zero, List.getElem?_cons_succ]; rfl) (fun K hK => ?_) AllReadyH.nil
              rw [if_pos (by rfl)]
              go_simp
              refine (expands3 (twoP ⟨7, 0, 0⟩ ⟨1, a, b⟩) _ 2 2 _ (by omega) (fun h => by cases h) (by intro k hk; match k, hk with | 0, _ => exact (by decide : (0 : Int) ≤ 9223372036854775807) | 1, _ => exact HALE.out) (sarr_lit (heap_new y2 _) rfl)).mono ?_
              rintro e y3 ⟨rfl, hb⟩
              have D3 := Lib.hid ((D2.out.alloc D2.out.size _).trans (hb.mono (D2.out.alloc D2.out.size _).size))
              clear hb
              refine hK.out _ _ (HS6.out _ D3.out) (fun hHeld => ?_)
              clear hK K
              try simp only [Act.put, List.setIfInBounds_toArray, List.set_cons_zero, List.set_cons_succ]
              refine wpAnyH_take (i := 14) (v := ?_) (by simp only [List.getElem?_toArray, List.getElem?_cons_zero, List.getElem?_cons_succ]; rfl) (by kernel_rfl) (by kernel_rfl) (by kernel_rfl) (by intro _ _ _ h; exact h) (Or.inl ⟨by rfl, ?_⟩) hHeld ?_
              rotate_left
              · (intro w hSw; (try dsimp only at hSw); go_simp; try with_reducible rfl)
              try simp only [Act.put, List.setIfInBounds_toArray, List.set_cons_zero, List.set_cons_succ]
              refine wpAnyH_take (i := 15) (v := ?_) (by simp only [List.getElem?_toArray, List.getElem?_cons_zero, List.getElem?_cons_succ]; rfl) (by kernel_rfl) (by kernel_rfl) (by kernel_rfl) (by intro _ _ _ h; exact h) (Or.inl ⟨by rfl, ?_⟩) hHeld ?_
              rotate_left
              · (intro w hSw; (try dsimp only at hSw); go_simp; try with_reducible rfl)
              try simp only [Act.put, List.setIfInBounds_toArray, List.set_cons_zero, List.set_cons_succ]
              refine wpAnyH_done (by kernel_rfl) ?_ _
              clear hHeld
              have BK := Lib.hid (BQw6.out.trans (D3.out.mono BQw6.out.size))
              clear D0 D1 D2 D3 HS6 Q6 BQw6 R76 R96
              go_wp2_with fail
              go_roundw
              case rel => exact ⟨k + 1, by omega, by go_num, BK.out⟩
              case measure => simp [intOf]; omega
            · obtain rfl : k = 14 := by omega
              have t2 : decide (((14 : Nat) : Int) < 14) = false := by decide
              go_wp2_with fail
              go_roundw
              case rel => exact ⟨i + 1, by omega, by go_num, BK.out⟩
              case measure => simp [intOf]; omega
        · obtain rfl : i = 14 := by omega
          have t1 : decide (((14 : Nat) : Int) < 14) = false := by decide
          obtain ⟨w2, hw2⟩ : ∃ w, w = wr := ⟨_, rfl⟩
          rw [← hw2] at BI ⊢
          rw [show ((14 : Nat) : Int) = 14 from rfl]
          have BW2 := Lib.hid (BW1.out.trans (BI.out.mono BW1.out.size))
          clear hw2 BI HNUM1 HL1 BW1 HAN
          go_wp2_with fail
          go_loopw [11] (fun i wr => ∃ k : Nat, 32763 ≤ k ∧ k ≤ 32769 ∧ i = .int .i64 k ∧ Below w2.heap.size w2 wr) (fun i _ => 32769 - (intOf i).toNat)
          case atStart => exact ⟨32763, by omega, by omega, rfl, Below.refl _ _⟩
          case round =>
            obtain ⟨k, hk0, hk, rfl, hb⟩ := hrel
            have BK := Lib.hid hb
            clear hb
            by_cases hlt : k < 32769
            · have t1 : decide ((k : Int) < 32769) = true := by simp; omega
              have HABC := Lib.hid (abc_row k)
              have BW3 := Lib.hid (BK.out.alloc BK.out.size (.cells #[.int .u8 97, .int .u8 98, .int .u8 99] 5 (3, 4)))
              have HCA : Hid (∀ j u, ([.int .u8 97, .int .u8 98, .int .u8 99] : List Value)[j]? = some u → (wr.alloc (.cells #[.int .u8 97, .int .u8 98, .int .u8 99] 5 (3, 4))).cell? ((⟨wr.heap.size, 0, none⟩ : Addr).add j) = some u) := Lib.hid fun j u hu => by
                rw [Go.WideShapes.add_plain, Nat.zero_add]
                exact block_cell (heap_new wr _) j u (by simpa using hu)
              have L1 : Hid (3 + k ≤ maxLen) := Lib.hid (by unfold maxLen; omega)
              have L2 : Hid ((3 + k) * 1 ≤ 140737488355328) := Lib.hid (by omega)
              have L3 : Hid (0 < k) := Lib.hid (by omega)
              have L4 : Hid (3 < 3 + k) := Lib.hid (by omega)
              have L5 : Hid (3 + k + (⟨#[97, 98, 99]⟩ : ByteArray).size ≤ maxLen) := Lib.hid (by show 3 + k + 3 ≤ maxLen; unfold maxLen; omega)
              have L6 : Hid (3 + k + (⟨#[97, 98, 99]⟩ : ByteArray).size ≤ 140737488355328) := Lib.hid (by show 3 + k + 3 ≤ _; omega)
              have cv := run_convert_bytes_const_at (P := Try.prog) wr 25 5 #[.int .u8 97, .int .u8 98, .int .u8 99] 3 3 wr.heap.size rfl Try.underlying25 Try.underlying5
              simp only [List.size_toArray, List.length_cons, List.length_nil] at cv
              go_wp2_with (at_builtin; refine wpList_append_zeros_far (P := Try.prog) rfl (.tmp 112) (.tmp 113) 25 3 rfl 5 i0 (.int .u8 0) 1 1 .i64 Try.underlying25 Try.underlying3 HI0.out.1 HI0.out.2.1 HI0.out.2.2.1 HI0.out.2.2.2 rfl (by decide) ⟨wr.heap.size, 0, none⟩ 3 3 [.int .u8 97, .int .u8 98, .int .u8 99] rfl rfl HCA.out .i64 k rfl L3.out L4.out L1.out L2.out ?_; intro v1 x1 hown hgr; refine Hid.out ?_)
              clear cv
              have R1 := Lib.hid hown
              have D1 := Lib.hid (BW3.out.grown hgr BW3.out.size (fun q e => by cases e))
              have L7 := Lib.hid hgr.size
              clear hown hgr
              refine Lib.hid ?_
              go_wp2_with (at_builtin; refine Go.Lib.wpList_append_own_string _ rfl (.tmp 114) _ 25 9 rfl _ 5 i0 Try.underlying25 Try.underlying9 HI0.out.1 HI0.out.2.1 HI0.out.2.2.1 HI0.out.2.2.2 v1 (3 + k) _ rfl R1.out ⟨#[97, 98, 99]⟩ rfl L5.out L6.out L7.out ?_; intro v2 x2 hown hgr _; refine Hid.out ?_)
              rw [HABC.out] at hown
              have hown : x2.ownsRow (wr.alloc (.cells #[.int .u8 97, .int .u8 98, .int .u8 99] 5 (3, 4))).heap.size 5 1 v2 (3 + k + 3) ((List.range (3 + k + 3)).map fun j => Value.int .u8 (abcF k j)) := hown
              obtain ⟨A2, c2, rfl, ha2, hc2, -⟩ := row_arr hown
              have HA2 := Lib.hid ha2
              have HC2 := Lib.hid hc2
              have D2 := Lib.hid (D1.out.grown hgr D1.out.size (fun q e => Nat.le_trans BW3.out.size (R1.out.lt q e).1))
              clear hown hgr ha2 hc2 R1 HCA L1 L2 L3 L4 L5 L6 L7 HABC
              refine Lib.hid ?_
              obtain ⟨N, hN⟩ : ∃ N : Nat, N = 3 + k + 3 := ⟨_, rfl⟩
              have hN1 : N ≤ 65536 := by omega
              rw [← hN] at HA2 HC2 ⊢
              clear hN
              go_wp2_with fail
              refine (parse18 (abcF k) A2 N c2 x2 hN1 HC2.out HA2.out (fun i _ => abcF_lo k i)).mono ?_
              rintro e x3 ⟨K, v, hK, rfl, r3, hb3⟩
              obtain ⟨A3, c3, rfl, ha3, -⟩ := srow_arr (wide_pcs _) r3
              have HA3 := Lib.hid ha3
              have D3 := Lib.hid (D2.out.trans (hb3.mono D2.out.size))
              have HA23 := Lib.hid ((HA2.out.below hb3 (Nat.le_refl _)).more hb3.size)
              have hKn := hK.end_.2
              have HX := Lib.hid (expAll hN1 hK)
              clear r3 ha3 hb3 hK
              go_wp2_with fail
              refine (expand10 (pcF (abcF k) N) A3 K c3 x3 (by omega) HA3.out).mono ?_
              rintro e y4 (⟨h1, -⟩ | ⟨out, v, h1, rfl, h2, h3⟩)
              · rw [HX.out] at h1; cases h1
              rw [HX.out] at h1
              injection h1 with h1
              subst h1
              obtain ⟨A5, c5, rfl⟩ := row_slice h2
              have hl : (bytesL (abcF k) N).length = N := bytesL_len _ _
              rw [hl] at h2 ⊢
              have HA5 : Hid (Arr y4 y4.heap.size A5 N fun j => .int .u8 (abcF k j)) := Lib.hid (Arr.congr (row_bytes h2 hl) fun j hj => by rw [bytesL_at hj])
              have D4 := Lib.hid (D3.out.trans (h3.mono D3.out.size))
              have HA24 := Lib.hid (HA23.out.below h3 (Nat.le_refl _))
              clear h2 h3 hl HA23 HA2 HA3
              go_wp2_with fail
              refine (same12 (abcF k) A2 A5 N c2 c5 _ _ y4 (by omega) HA24.out HA5.out).mono ?_
              rintro e x5 ⟨rfl, qq, rfl⟩
              have D5 := Lib.hid (below_drewN D4.out qq)
              go_wp2_with fail
              go_roundw
              case rel => exact ⟨k + 1, by omega, by omega, by go_num, D5.out⟩
              case measure => simp [intOf]; omega
            · obtain rfl : k = 32769 := by omega
              have t1 : decide ((32769 : Int) < 32769) = false := by decide
              rw [show ((32769 : Nat) : Int) = 32769 from rfl]
              obtain ⟨w3, hw3⟩ : ∃ w, w = wr := ⟨_, rfl⟩
              rw [← hw3] at BK ⊢
              have BW4 := Lib.hid (BW2.out.trans (BK.out.mono BW2.out.size))
              clear hw3 BK BW2
              have BT := Lib.hid (Below.refl w3.heap.size w3)
              go_wp2_with fail
              refine (one15 5 _).mono ?_
              rintro e y1 ⟨rfl, hb⟩
              have BT := Lib.hid (BT.out.trans (hb.mono BT.out.size))
              clear hb
              go_wp2_with fail
              refine (one15 6 _).mono ?_
              rintro e y2 ⟨rfl, hb⟩
              have BT := Lib.hid (BT.out.trans (hb.mono BT.out.size))
              have R0 : Hid (y2.ownsRow w3.heap.size 35 3 (.slice none 0 0) 0 []) := Lib.hid (World.ownsRow_nil _ _ _ _)
              clear hb
              have RA := Lib.hid (R0.out.alloc (.cells #[.int .u8 5, .int .i64 0, .int .i64 0, .int .u8 6, .int .i64 0, .int .i64 0] 35))
              have CA : Hid (∀ ad, (some ⟨y2.heap.size, 0, none⟩ : Option Addr) = some ad → ∀ j u, ([.int .u8 5, .int .i64 0, .int .i64 0, .int .u8 6, .int .i64 0, .int .i64 0] : List Value)[j]? = some u → (y2.alloc (.cells #[.int .u8 5, .int .i64 0, .int .i64 0, .int .u8 6, .int .i64 0, .int .i64 0] 35)).cell? (ad.add j) = some u) := Lib.hid fun ad e j u hu => by
                cases e
                rw [Go.WideShapes.add_plain, Nat.zero_add]
                exact block_cell (heap_new y2 _) j u (by simpa using hu)
              have ON : Hid (∀ u ∈ ([.int .u8 5, .int .i64 0, .int .i64 0, .int .u8 6, .int .i64 0, .int .i64 0] : List Value), u.oneCell' = true) := Lib.hid (by simp [Value.oneCell'])
              have NN : Hid ((some ⟨y2.heap.size, 0, none⟩ : Option Addr) = none → (2 : Nat) = 0 ∧ (2 : Nat) = 0) := Lib.hid (fun h => by cases h)
              have L1 : Hid (0 + 2 ≤ maxLen) := Lib.hid (by unfold maxLen; omega)
              have L2 : Hid ((0 + 2) * 24 ≤ 140737488355328) := Lib.hid (by omega)
              have L3 : Hid (w3.heap.size ≤ (y2.alloc (.cells #[.int .u8 5, .int .i64 0, .int .i64 0, .int .u8 6, .int .i64 0, .int .i64 0] 35)).heap.size) := Lib.hid (by have := BT.out.size; simp; omega)
              go_wp2_with (at_builtin; refine wpList_append_any rfl _ _ 22 rfl w3.heap.size 35 i1 (.agg #[.int .u8 0, .int .i64 0, .int .i64 0]) 3 24 Try.underlying22 HI1.out.1 HI1.out.2.1 HI1.out.2.2.1 HI1.out.2.2.2 rfl (by decide) (.slice none 0 0) 0 _ rfl RA.out (some ⟨y2.heap.size, 0, none⟩) 2 2 [.int .u8 5, .int .i64 0, .int .i64 0, .int .u8 6, .int .i64 0, .int .i64 0] rfl NN.out rfl CA.out ON.out L1.out L2.out L3.out ?_; intro v' xx hown hgr; refine Hid.out ?_)
              have BU := Lib.hid ((BT.out.alloc BT.out.size (.cells #[.int .u8 5, .int .i64 0, .int .i64 0, .int .u8 6, .int .i64 0, .int .i64 0] 35)).grown hgr L3.out (fun q e => (RA.out.lt q e).1))
              clear RA CA ON NN L1 L2 L3 hgr BT
              have hown : xx.ownsRow w3.heap.size 35 3 v' (2 + 0) (flatS (pcsF fullF) (2 + 0)) := hown
              have RF := Lib.hid hown
              clear hown R0
              refine Lib.hid ?_
              go_wp2_with fail
              go_loopw [15, 16] (fun v n wr => ∃ k : Nat, k ≤ 254 ∧ n = .int .i64 k ∧ wr.ownsRow w3.heap.size 35 3 v (2 + k) (flatS (pcsF fullF) (2 + k)) ∧ Below w3.heap.size w3 wr) (fun _ n _ => 254 - (intOf n).toNat)
              case atStart => exact ⟨0, by omega, rfl, RF.out, BU.out⟩
              case round =>
                clear RF BU
                obtain ⟨k, hk, rfl, hr, hb⟩ := hrel
                have HR := Lib.hid hr
                have BT := Lib.hid hb
                clear hr hb
                by_cases hlt : k < 254
                · have t1 : decide ((k : Int) < 254) = true := by simp; omega
                  obtain ⟨d, hd⟩ : ∃ d : Int, d = 1 + (k : Int) % 2 := ⟨_, rfl⟩
                  have HNX := Lib.hid (full_next k hd)
                  have hm2 : (k : Int).tmod 2 = (k : Int) % 2 := by rw [Int.tmod_eq_emod_of_nonneg (by omega)]
                  have hd2 : IntKind.i64.wrap (1 + (k : Int) % 2) = d := by rw [IntWalk.i64_in _ (by omega), hd]
                  clear hd
                  go_wp2_with fail
                  refine (match16 258 d wr).mono ?_
                  rintro e x1 ⟨rfl, hb⟩
                  have HR1 := Lib.hid ((Keeps.fresh (S := fun _ => False) hb).row HR.out (fun _ _ h => h))
                  have BT := Lib.hid (BT.out.trans (hb.mono BT.out.size))
                  clear hb HR
                  have RA := Lib.hid (HR1.out.alloc (.cells #[.int .u8 0, .int .i64 258, .int .i64 d] 35))
                  have CA : Hid (∀ ad, (some ⟨x1.heap.size, 0, none⟩ : Option Addr) = some ad → ∀ j u, ([.int .u8 0, .int .i64 258, .int .i64 d] : List Value)[j]? = some u → (x1.alloc (.cells #[.int .u8 0, .int .i64 258, .int .i64 d] 35)).cell? (ad.add j) = some u) := Lib.hid fun ad e j u hu => by
                    cases e
                    rw [Go.WideShapes.add_plain, Nat.zero_add]
                    exact block_cell (heap_new x1 _) j u (by simpa using hu)
                  have ON : Hid (∀ u ∈ ([.int .u8 0, .int .i64 258, .int .i64 d] : List Value), u.oneCell' = true) := Lib.hid (by simp [Value.oneCell'])
                  have NN : Hid ((some ⟨x1.heap.size, 0, none⟩ : Option Addr) = none → (1 : Nat) = 0 ∧ (1 : Nat) = 0) := Lib.hid (fun h => by cases h)
                  have L1 : Hid (2 + k + 1 ≤ maxLen) := Lib.hid (by unfold maxLen; omega)
                  have L2 : Hid ((2 + k + 1) * 24 ≤ 140737488355328) := Lib.hid (by omega)
                  have L3 : Hid (w3.heap.size ≤ (x1.alloc (.cells #[.int .u8 0, .int .i64 258, .int .i64 d] 35)).heap.size) := Lib.hid (by have := BT.out.size; simp; omega)
                  go_wp2_with (at_builtin; refine wpList_append_any rfl _ _ 22 rfl (w3.heap.size) 35 i1 (.agg #[.int .u8 0, .int .i64 0, .int .i64 0]) 3 24 Try.underlying22 HI1.out.1 HI1.out.2.1 HI1.out.2.2.1 HI1.out.2.2.2 rfl (by decide) _ (2 + k) _ rfl RA.out (some ⟨x1.heap.size, 0, none⟩) 1 1 [.int .u8 0, .int .i64 258, .int .i64 d] rfl NN.out rfl CA.out ON.out L1.out L2.out L3.out ?_; intro v' xx hown hgr)
                  have BU := Lib.hid ((BT.out.alloc BT.out.size (.cells #[.int .u8 0, .int .i64 258, .int .i64 d] 35)).grown hgr L3.out (fun q e => (RA.out.lt q e).1))
                  clear RA CA ON NN L1 L2 L3 hgr BT
                  rw [HNX.out] at hown
                  go_roundw
                  case rel => exact ⟨k + 1, by omega, by go_num, hown, BU.out⟩
                  case measure => simp [intOf]; omega
                · obtain rfl : k = 254 := by omega
                  have t1 : decide ((254 : Int) < 254) = false := by decide
                  have hr256 : wr.ownsRow w3.heap.size 35 3 _ 256 (flatS (pcsF fullF) 256) := HR.out
                  obtain ⟨A, c, rfl, ha, hnc, hcm, hA⟩ := srow_arr (wide_pcs _) hr256
                  rw [show ((254 : Nat) : Int) = 254 from rfl]
                  obtain ⟨w4, hw4⟩ : ∃ w, w = wr := ⟨_, rfl⟩
                  rw [← hw4] at ha BT ⊢
                  have HL1 : Hid (∀ wr, Below w4.heap.size w4 wr → SArr wr wr.heap.size A 256 3 (pcsF fullF)) := Lib.hid fun wr hb => (ha.below hb (Nat.le_refl _)).more hb.size
                  have HAN := Lib.hid hA
                  have BW5 := Lib.hid (BW4.out.trans (BT.out.mono BW4.out.size))
                  clear HR ha hA hr256 hw4 BT BW4
                  have BT := Lib.hid (Below.refl w4.heap.size w4)
                  go_wp2_with fail
                  refine (copy17 fullF A 256 c _ (by omega) HAN.out (HL1.out _ BT.out)).mono ?_
                  rintro e y0 ⟨v, rfl, hr, hb⟩
                  have R0 := Lib.hid (row_more hr BT.out.size)
                  have BT := Lib.hid (BT.out.trans (hb.mono BT.out.size))
                  clear hb hr
                  go_wp2_with fail
                  refine (one15 1 _).mono ?_
                  rintro e y1 ⟨rfl, hb⟩
                  have R1 := Lib.hid ((Keeps.fresh (S := fun _ => False) hb).row R0.out (fun _ _ h => h))
                  have BT := Lib.hid (BT.out.trans (hb.mono BT.out.size))
                  clear hb R0
                  go_wp2_with fail
                  refine (one15 1 _).mono ?_
                  rintro e y2 ⟨rfl, hb⟩
                  have R2 := Lib.hid ((Keeps.fresh (S := fun _ => False) hb).row R1.out (fun _ _ h => h))
                  have BT := Lib.hid (BT.out.trans (hb.mono BT.out.size))
                  clear hb R1
                  have RA := Lib.hid (R2.out.alloc (.cells #[.int .u8 1, .int .i64 0, .int .i64 0, .int .u8 1, .int .i64 0, .int .i64 0] 35))
                  have CA : Hid (∀ ad, (some ⟨y2.heap.size, 0, none⟩ : Option Addr) = some ad → ∀ j u, ([.int .u8 1, .int .i64 0, .int .i64 0, .int .u8 1, .int .i64 0, .int .i64 0] : List Value)[j]? = some u → (y2.alloc (.cells #[.int .u8 1, .int .i64 0, .int .i64 0, .int .u8 1, .int .i64 0, .int .i64 0] 35)).cell? (ad.add j) = some u) := Lib.hid fun ad e j u hu => by
                    cases e
                    rw [Go.WideShapes.add_plain, Nat.zero_add]
                    exact block_cell (heap_new y2 _) j u (by simpa using hu)
                  have ON : Hid (∀ u ∈ ([.int .u8 1, .int .i64 0, .int .i64 0, .int .u8 1, .int .i64 0, .int .i64 0] : List Value), u.oneCell' = true) := Lib.hid (by simp [Value.oneCell'])
                  have NN : Hid ((some ⟨y2.heap.size, 0, none⟩ : Option Addr) = none → (2 : Nat) = 0 ∧ (2 : Nat) = 0) := Lib.hid (fun h => by cases h)
                  have L1 : Hid (256 + 2 ≤ maxLen) := Lib.hid (by unfold maxLen; omega)
                  have L2 : Hid ((256 + 2) * 24 ≤ 140737488355328) := Lib.hid (by omega)
                  have L3 : Hid (w4.heap.size ≤ (y2.alloc (.cells #[.int .u8 1, .int .i64 0, .int .i64 0, .int .u8 1, .int .i64 0, .int .i64 0] 35)).heap.size) := Lib.hid (by have := BT.out.size; simp; omega)
                  go_wp2_with (at_builtin; refine wpList_append_any rfl _ _ 22 rfl (w4.heap.size) 35 i1 (.agg #[.int .u8 0, .int .i64 0, .int .i64 0]) 3 24 Try.underlying22 HI1.out.1 HI1.out.2.1 HI1.out.2.2.1 HI1.out.2.2.2 rfl (by decide) v (256) _ rfl RA.out (some ⟨y2.heap.size, 0, none⟩) 2 2 [.int .u8 1, .int .i64 0, .int .i64 0, .int .u8 1, .int .i64 0, .int .i64 0] rfl NN.out rfl CA.out ON.out L1.out L2.out L3.out ?_; intro v' xx hown hgr; refine Hid.out ?_)
                  have BU := Lib.hid ((BT.out.alloc BT.out.size (.cells #[.int .u8 1, .int .i64 0, .int .i64 0, .int .u8 1, .int .i64 0, .int .i64 0] 35)).grown hgr L3.out (fun q e => (RA.out.lt q e).1))
                  clear RA CA ON NN L1 L2 L3 hgr BT
                  have eC : flatS (pcsF fullF) 256 ++ [.int .u8 1, .int .i64 0, .int .i64 0, .int .u8 1, .int .i64 0, .int .i64 0] = flatS (pcsF (catP fullF 256 one1)) (256 + 2) := pcs_cat fullF one1 256 2
                  rw [eC] at hown
                  have hown : xx.ownsRow w4.heap.size 35 3 v' 258 (flatS (pcsF (catP fullF 256 one1)) 258) := hown
                  obtain ⟨A3, c3, rfl, ha3, -⟩ := srow_arr (wide_pcs _) hown
                  have HA3 := Lib.hid ha3
                  have BT := BU
                  clear hown ha3 eC BU R2
                  refine Lib.hid ?_
                  go_wp2_with fail
                  refine (expand10 (catP fullF 256 one1) A3 258 c3 xx (by omega) HA3.out).mono ?_
                  rintro e z (⟨h1, -⟩ | ⟨out, v, h1, rfl, h2, h3⟩)
                  · rw [full_ones.1.choose_spec.1] at h1; cases h1
                  have hol : out.length = 65536 := by
                    have h9 := full_ones.1.choose_spec
                    rw [h9.1] at h1
                    injection h1 with h1
                    rw [← h1]; exact h9.2
                  obtain ⟨A5, c5, rfl⟩ := row_slice h2
                  rw [hol]
                  have BT := Lib.hid (BT.out.trans (h3.mono BT.out.size))
                  clear h1 h2 h3 hol
                  clear HA3
                  go_wp2_with fail
                  refine (copy17 fullF A 256 c _ (by omega) HAN.out (HL1.out _ BT.out)).mono ?_
                  rintro e y0 ⟨v, rfl, hr, hb⟩
                  have R0 := Lib.hid (row_more hr BT.out.size)
                  have BT := Lib.hid (BT.out.trans (hb.mono BT.out.size))
                  clear hb hr
                  go_wp2_with fail
                  refine (one15 1 _).mono ?_
                  rintro e y1 ⟨rfl, hb⟩
                  have R1 := Lib.hid ((Keeps.fresh (S := fun _ => False) hb).row R0.out (fun _ _ h => h))
                  have BT := Lib.hid (BT.out.trans (hb.mono BT.out.size))
                  clear hb R0
                  go_wp2_with fail
                  refine (one15 1 _).mono ?_
                  rintro e y2 ⟨rfl, hb⟩
                  have R2 := Lib.hid ((Keeps.fresh (S := fun _ => False) hb).row R1.out (fun _ _ h => h))
                  have BT := Lib.hid (BT.out.trans (hb.mono BT.out.size))
                  clear hb R1
                  go_wp2_with fail
                  refine (one15 1 _).mono ?_
                  rintro e y3 ⟨rfl, hb⟩
                  have R3 := Lib.hid ((Keeps.fresh (S := fun _ => False) hb).row R2.out (fun _ _ h => h))
                  have BT := Lib.hid (BT.out.trans (hb.mono BT.out.size))
                  clear hb R2
                  have RA := Lib.hid (R3.out.alloc (.cells #[.int .u8 1, .int .i64 0, .int .i64 0, .int .u8 1, .int .i64 0, .int .i64 0, .int .u8 1, .int .i64 0, .int .i64 0] 35))
                  have CA : Hid (∀ ad, (some ⟨y3.heap.size, 0, none⟩ : Option Addr) = some ad → ∀ j u, ([.int .u8 1, .int .i64 0, .int .i64 0, .int .u8 1, .int .i64 0, .int .i64 0, .int .u8 1, .int .i64 0, .int .i64 0] : List Value)[j]? = some u → (y3.alloc (.cells #[.int .u8 1, .int .i64 0, .int .i64 0, .int .u8 1, .int .i64 0, .int .i64 0, .int .u8 1, .int .i64 0, .int .i64 0] 35)).cell? (ad.add j) = some u) := Lib.hid fun ad e j u hu => by
                    cases e
                    rw [Go.WideShapes.add_plain, Nat.zero_add]
                    exact block_cell (heap_new y3 _) j u (by simpa using hu)
                  have ON : Hid (∀ u ∈ ([.int .u8 1, .int .i64 0, .int .i64 0, .int .u8 1, .int .i64 0, .int .i64 0, .int .u8 1, .int .i64 0, .int .i64 0] : List Value), u.oneCell' = true) := Lib.hid (by simp [Value.oneCell'])
                  have NN : Hid ((some ⟨y3.heap.size, 0, none⟩ : Option Addr) = none → (3 : Nat) = 0 ∧ (3 : Nat) = 0) := Lib.hid (fun h => by cases h)
                  have L1 : Hid (256 + 3 ≤ maxLen) := Lib.hid (by unfold maxLen; omega)
                  have L2 : Hid ((256 + 3) * 24 ≤ 140737488355328) := Lib.hid (by omega)
                  have L3 : Hid (w4.heap.size ≤ (y3.alloc (.cells #[.int .u8 1, .int .i64 0, .int .i64 0, .int .u8 1, .int .i64 0, .int .i64 0, .int .u8 1, .int .i64 0, .int .i64 0] 35)).heap.size) := Lib.hid (by have := BT.out.size; simp; omega)
                  go_wp2_with (at_builtin; refine wpList_append_any rfl _ _ 22 rfl (w4.heap.size) 35 i1 (.agg #[.int .u8 0, .int .i64 0, .int .i64 0]) 3 24 Try.underlying22 HI1.out.1 HI1.out.2.1 HI1.out.2.2.1 HI1.out.2.2.2 rfl (by decide) v (256) _ rfl RA.out (some ⟨y3.heap.size, 0, none⟩) 3 3 [.int .u8 1, .int .i64 0, .int .i64 0, .int .u8 1, .int .i64 0, .int .i64 0, .int .u8 1, .int .i64 0, .int .i64 0] rfl NN.out rfl CA.out ON.out L1.out L2.out L3.out ?_; intro v' xx hown hgr; refine Hid.out ?_)
                  have BU := Lib.hid ((BT.out.alloc BT.out.size (.cells #[.int .u8 1, .int .i64 0, .int .i64 0, .int .u8 1, .int .i64 0, .int .i64 0, .int .u8 1, .int .i64 0, .int .i64 0] 35)).grown hgr L3.out (fun q e => (RA.out.lt q e).1))
                  clear RA CA ON NN L1 L2 L3 hgr BT
                  have eC : flatS (pcsF fullF) 256 ++ [.int .u8 1, .int .i64 0, .int .i64 0, .int .u8 1, .int .i64 0, .int .i64 0, .int .u8 1, .int .i64 0, .int .i64 0] = flatS (pcsF (catP fullF 256 one1)) (256 + 3) := pcs_cat fullF one1 256 3
                  rw [eC] at hown
                  have hown : xx.ownsRow w4.heap.size 35 3 v' 259 (flatS (pcsF (catP fullF 256 one1)) 259) := hown
                  obtain ⟨A3, c3, rfl, ha3, -⟩ := srow_arr (wide_pcs _) hown
                  have HA3 := Lib.hid ha3
                  have BT := BU
                  clear hown ha3 eC BU R3
                  refine Lib.hid ?_
                  go_wp2_with fail
                  refine (expand10 (catP fullF 256 one1) A3 259 c3 xx (by omega) HA3.out).mono ?_
                  rintro e z ( ⟨-, rfl, hb⟩ | ⟨out, v, h1, -⟩)
                  rotate_left
                  · rw [full_ones.2.1] at h1; cases h1
                  have BT := Lib.hid (BT.out.trans (hb.mono BT.out.size))
                  clear hb
                  clear HA3
                  go_wp2_with fail
                  refine (copy17 fullF A 256 c _ (by omega) HAN.out (HL1.out _ BT.out)).mono ?_
                  rintro e y0 ⟨v, rfl, hr, hb⟩
                  have R0 := Lib.hid (row_more hr BT.out.size)
                  have BT := Lib.hid (BT.out.trans (hb.mono BT.out.size))
                  clear hb hr
                  go_wp2_with fail
                  refine (match16 3 1 _).mono ?_
                  rintro e y1 ⟨rfl, hb⟩
                  have R1 := Lib.hid ((Keeps.fresh (S := fun _ => False) hb).row R0.out (fun _ _ h => h))
                  have BT := Lib.hid (BT.out.trans (hb.mono BT.out.size))
                  clear hb R0
                  have RA := Lib.hid (R1.out.alloc (.cells #[.int .u8 0, .int .i64 3, .int .i64 1] 35))
                  have CA : Hid (∀ ad, (some ⟨y1.heap.size, 0, none⟩ : Option Addr) = some ad → ∀ j u, ([.int .u8 0, .int .i64 3, .int .i64 1] : List Value)[j]? = some u → (y1.alloc (.cells #[.int .u8 0, .int .i64 3, .int .i64 1] 35)).cell? (ad.add j) = some u) := Lib.hid fun ad e j u hu => by
                    cases e
                    rw [Go.WideShapes.add_plain, Nat.zero_add]
                    exact block_cell (heap_new y1 _) j u (by simpa using hu)
                  have ON : Hid (∀ u ∈ ([.int .u8 0, .int .i64 3, .int .i64 1] : List Value), u.oneCell' = true) := Lib.hid (by simp [Value.oneCell'])
                  have NN : Hid ((some ⟨y1.heap.size, 0, none⟩ : Option Addr) = none → (1 : Nat) = 0 ∧ (1 : Nat) = 0) := Lib.hid (fun h => by cases h)
                  have L1 : Hid (256 + 1 ≤ maxLen) := Lib.hid (by unfold maxLen; omega)
                  have L2 : Hid ((256 + 1) * 24 ≤ 140737488355328) := Lib.hid (by omega)
                  have L3 : Hid (w4.heap.size ≤ (y1.alloc (.cells #[.int .u8 0, .int .i64 3, .int .i64 1] 35)).heap.size) := Lib.hid (by have := BT.out.size; simp; omega)
                  go_wp2_with (at_builtin; refine wpList_append_any rfl _ _ 22 rfl (w4.heap.size) 35 i1 (.agg #[.int .u8 0, .int .i64 0, .int .i64 0]) 3 24 Try.underlying22 HI1.out.1 HI1.out.2.1 HI1.out.2.2.1 HI1.out.2.2.2 rfl (by decide) v (256) _ rfl RA.out (some ⟨y1.heap.size, 0, none⟩) 1 1 [.int .u8 0, .int .i64 3, .int .i64 1] rfl NN.out rfl CA.out ON.out L1.out L2.out L3.out ?_; intro v' xx hown hgr; refine Hid.out ?_)
                  have BU := Lib.hid ((BT.out.alloc BT.out.size (.cells #[.int .u8 0, .int .i64 3, .int .i64 1] 35)).grown hgr L3.out (fun q e => (RA.out.lt q e).1))
                  clear RA CA ON NN L1 L2 L3 hgr BT
                  have eC : flatS (pcsF fullF) 256 ++ [.int .u8 0, .int .i64 3, .int .i64 1] = flatS (pcsF (catP fullF 256 (fun _ => ⟨0, 3, 1⟩))) (256 + 1) := pcs_cat fullF (fun _ => ⟨0, 3, 1⟩) 256 1
                  rw [eC] at hown
                  have hown : xx.ownsRow w4.heap.size 35 3 v' 257 (flatS (pcsF (catP fullF 256 (fun _ => ⟨0, 3, 1⟩))) 257) := hown
                  obtain ⟨A3, c3, rfl, ha3, -⟩ := srow_arr (wide_pcs _) hown
                  have HA3 := Lib.hid ha3
                  have BT := BU
                  clear hown ha3 eC BU R1
                  refine Lib.hid ?_
                  go_wp2_with fail
                  refine (expand10 (catP fullF 256 (fun _ => ⟨0, 3, 1⟩)) A3 257 c3 xx (by omega) HA3.out).mono ?_
                  rintro e z ( ⟨-, rfl, hb⟩ | ⟨out, v, h1, -⟩)
                  rotate_left
                  · rw [full_ones.2.2] at h1; cases h1
                  have BT := Lib.hid (BT.out.trans (hb.mono BT.out.size))
                  clear hb
                  clear HA3
                  go_wp2_with fail
                  refine (awake8 _).mono ?_
                  rintro e z2 ⟨rfl, hb⟩
                  have BT := Lib.hid (BT.out.trans (hb.mono BT.out.size))
                  clear hb
                  go_wp2_with fail
                  go_ret
                  exact ⟨rfl, BW5.out.trans (BT.out.mono BW5.out.size)⟩
end Go.Proofs.Ytbaibkckigdndaa
