/- The chapter's examples (layer 5). -/
import Derived.Test.YtbaibkckigdndaaI
import Derived.Laws.BytesArg
import Derived.Lib.SmallJoins
namespace Go.Proofs.Ytbaibkckigdndaa
open Go.RowKit Go.Joins
theorem sarr_lit {w : World} {g n : Nat} {P : Nat → Pc} {cs : Array Value} {z : Nat × Nat} (h : w.heap[g]? = some (.cells cs 35 z)) (e : cs = (flatS (pcsF P) n).toArray) : SArr w w.heap.size (some ⟨g, 0, none⟩) n 3 (pcsF P) :=
  SArr.ofCells (wide_pcs P) (e ▸ h) fun _ _ => rfl
set_option maxHeartbeats 1000000 in
theorem refused25 (P : Nat → Pc) (A : Option Addr) (n c : Nat) (w : World) (hn : n ≤ 17592186044400) (ha : SArr w w.heap.size A n 3 (pcsF P)) (h : expP P n = none) :
    Calls Try.prog 25 #[.slice A n c] w fun e w' => e = .returned (.bool true) ∧ Below w.heap.size w w' := by
  have HA := Lib.hid ha
  have HN := Lib.hid h
  clear ha h
  go_enter Try.func25, Try.ntmps25
  go_wp2_with fail
  refine (expand10 P A n c w hn HA.out).mono ?_
  rintro e w1 (⟨-, rfl, hb⟩ | ⟨out, v, h1, -⟩)
  · have HB := Lib.hid hb
    clear hb
    go_wp2_with fail
    go_ret
    exact ⟨rfl, HB.out⟩
  · rw [HN.out] at h1; cases h1
def ex1 : Nat → Pc := fun k => match k with | 0 => ⟨97, 0, 0⟩ | 1 => ⟨98, 0, 0⟩ | _ => ⟨0, 5, 2⟩
def ex2 : Nat → Pc := fun _ => ⟨0, 3, 1⟩
def ex3 : Nat → Pc := fun k => match k with | 0 => ⟨97, 0, 0⟩ | _ => ⟨0, 2, 1⟩
def ex4 : Nat → Pc := fun k => match k with | 0 => ⟨97, 0, 0⟩ | _ => ⟨1, 3, 1⟩
def exB : List Int := [112, 101, 97, 116, 32, 112, 101, 97, 116, 32, 112, 101, 97, 116]
def exF : Nat → Int := fun k => exB.getD k 0
theorem ex1_exp : expP ex1 3 = some [97, 98, 97, 98, 97, 98, 97] := by kernel_rfl
theorem ex2_exp : expP ex2 1 = none := by kernel_rfl
theorem ex3_exp : expP ex3 2 = none := by kernel_rfl
theorem ex4_exp : expP ex4 2 = none := by kernel_rfl
theorem exB_eq : bytesL exF 14 = exB := by kernel_rfl
theorem exF_lo : ∀ i, i < 14 → 0 ≤ exF i ∧ exF i < 256 := by decide
/-- A row of bytes as a string. -/
theorem conv_row {w : World} {base g c : Nat} {xs : List Int} {n : Nat} (h : w.ownsRow base 5 1 (.slice (some ⟨g, 0, none⟩) n c) n (bv xs)) (hn : xs.length = n) (s : ByteArray) (hs : strOfNums xs = s) :
    (convert 25 9 (.slice (some ⟨g, 0, none⟩) n c)).run Try.prog w = .ok (.string s) w := by
  rw [← hs]
  refine run_convert_bytes_arg w 25 5 Try.underlying25 Try.underlying5 g 0 n c xs hn (fun i hi => ?_) 9 Try.underlying9
  rw [Nat.zero_add]
  exact (h.cellAt i (by omega)).trans (bv_at xs (by omega))
set_option maxRecDepth 100000 in
set_option maxHeartbeats 4000000 in
theorem awake8 (w : World) : Calls Try.prog 8 #[] w fun e w' => e = .returned (.bool true) ∧ Below w.heap.size w w' := by
  go_enter Try.func8, Try.ntmps8
  go_wp2_with fail
  refine (one15 97 w).mono ?_
  rintro e w1 ⟨rfl, hb⟩
  have B1 := Lib.hid hb
  clear hb
  go_wp2_with fail
  refine (one15 98 w1).mono ?_
  rintro e w2 ⟨rfl, hb⟩
  have B2 := Lib.hid (B1.out.trans (hb.mono B1.out.size))
  clear hb B1
  go_wp2_with fail
  refine (match16 5 2 w2).mono ?_
  rintro e w3 ⟨rfl, hb⟩
  have B3 := Lib.hid (B2.out.trans (hb.mono B2.out.size))
  clear hb B2
  go_wp2_with fail
  refine (expand10 ex1 _ 3 3 _ (by omega) (sarr_lit (heap_new w3 _) rfl)).mono ?_
  rintro e w4 (⟨h1, -⟩ | ⟨out, v, h1, rfl, h2, h3⟩)
  · rw [ex1_exp] at h1; cases h1
  rw [ex1_exp] at h1
  injection h1 with h1
  subst h1
  obtain ⟨g1, c1, rfl, hg1, hg2⟩ := h2.form (by decide)
  have R4 := Lib.hid h2
  have B4 := Lib.hid (B3.out.trans ((Below.refl _ w3).alloc (Nat.le_refl _) (.cells (flatS (pcsF ex1) 3).toArray 35) |>.mono B3.out.size) |>.trans (h3.mono (by have := B3.out.size; simp; omega)))
  clear h2 h3 B3
  have cv := run_convert_bytes_const_at (P := Try.prog) w4 25 5 #[.int .u8 112, .int .u8 101, .int .u8 97, .int .u8 116, .int .u8 32, .int .u8 112, .int .u8 101, .int .u8 97, .int .u8 116, .int .u8 32, .int .u8 112, .int .u8 101, .int .u8 97, .int .u8 116] 14 14 w4.heap.size rfl Try.underlying25 Try.underlying5
  simp only [List.size_toArray, List.length_cons, List.length_nil] at cv
  go_wp2_with fail
  clear cv
  have B5 := Lib.hid ((Below.refl _ w4).alloc (Nat.le_refl _) (.cells (bv exB).toArray 5 (14, 15)))
  refine (parse18 exF _ 14 14 _ (by omega) (by omega) (Arr.ofBlock 14 _ (heap_new w4 (.cells (bv exB).toArray 5 (14, 15))) fun j hj => by rw [List.getElem?_toArray]; exact bv_at exB hj) exF_lo).mono ?_
  rintro e w5 ⟨K, v5, hK, rfl, h5, hb5⟩
  have R5 := Lib.hid ((Keeps.fresh (S := fun _ => False) (B5.out.trans (hb5.mono B5.out.size))).row R4.out (fun _ _ h => h))
  have B6 := Lib.hid (B4.out.trans ((B5.out.trans (hb5.mono B5.out.size)).mono B4.out.size))
  have hKn := hK.end_.2
  obtain ⟨A5, c5, rfl, ha5, -⟩ := srow_arr (wide_pcs _) h5
  have HA5 := Lib.hid ha5
  have HX := Lib.hid (expAll (by omega) hK)
  clear h5 hb5 ha5 B5 hK
  go_wp2_with fail
  refine (expand10 (pcF exF 14) A5 K c5 w5 (by omega) HA5.out).mono ?_
  rintro e w6 (⟨h1, -⟩ | ⟨out, v, h1, rfl, h2, h3⟩)
  · rw [HX.out] at h1; cases h1
  rw [HX.out, exB_eq] at h1
  injection h1 with h1
  subst h1
  obtain ⟨g6, c6, rfl, hg3, hg4⟩ := h2.form (by decide)
  have R6 := Lib.hid ((Keeps.fresh (S := fun _ => False) h3).row R5.out (fun _ _ h => h))
  have B7 := Lib.hid (B6.out.trans (h3.mono B6.out.size))
  have cv1 : (convert 25 9 (.slice (some ⟨g1, 0, none⟩) 7 c1)).run Try.prog w6 = .ok (.string ⟨#[97, 98, 97, 98, 97, 98, 97]⟩) w6 := conv_row R6.out rfl ⟨#[97, 98, 97, 98, 97, 98, 97]⟩ (by kernel_rfl)
  have cv2 : (convert 25 9 (.slice (some ⟨g6, 0, none⟩) 14 c6)).run Try.prog w6 = .ok (.string ⟨#[112, 101, 97, 116, 32, 112, 101, 97, 116, 32, 112, 101, 97, 116]⟩) w6 := conv_row h2 rfl ⟨#[112, 101, 97, 116, 32, 112, 101, 97, 116, 32, 112, 101, 97, 116]⟩ (by kernel_rfl)
  have l1 : [97, 98, 97, 98, 97, 98, 97].length = 7 := rfl
  have l2 : exB.length = 14 := rfl
  clear h2 h3
  go_wp2_with fail
  refine (match16 3 1 w6).mono ?_
  rintro e w7 ⟨rfl, hb⟩
  have B8 := Lib.hid (B7.out.trans (hb.mono B7.out.size))
  clear hb B7 cv1 cv2
  go_wp2_with fail
  refine (refused25 ex2 _ 1 1 _ (by omega) (sarr_lit (heap_new w7 _) rfl) ex2_exp).mono ?_
  rintro e w8 ⟨rfl, hb⟩
  have B9 := Lib.hid (B8.out.trans (((Below.refl _ w7).alloc (Nat.le_refl _) (.cells (flatS (pcsF ex2) 1).toArray 35)).trans (hb.mono (by simp)) |>.mono B8.out.size))
  clear hb B8
  go_wp2_with fail
  refine (one15 97 w8).mono ?_
  rintro e w9 ⟨rfl, hb⟩
  have B10 := Lib.hid (B9.out.trans (hb.mono B9.out.size))
  clear hb B9
  go_wp2_with fail
  refine (match16 2 1 w9).mono ?_
  rintro e w10 ⟨rfl, hb⟩
  have B11 := Lib.hid (B10.out.trans (hb.mono B10.out.size))
  clear hb B10
  go_wp2_with fail
  refine (refused25 ex3 _ 2 2 _ (by omega) (sarr_lit (heap_new w10 _) rfl) ex3_exp).mono ?_
  rintro e w11 ⟨rfl, hb⟩
  have B12 := Lib.hid (B11.out.trans (((Below.refl _ w10).alloc (Nat.le_refl _) (.cells (flatS (pcsF ex3) 2).toArray 35)).trans (hb.mono (by simp)) |>.mono B11.out.size))
  clear hb B11
  go_wp2_with fail
  refine (one15 97 w11).mono ?_
  rintro e w12 ⟨rfl, hb⟩
  have B13 := Lib.hid (B12.out.trans (hb.mono B12.out.size))
  clear hb B12
  go_wp2_with fail
  refine (refused25 ex4 _ 2 2 _ (by omega) (sarr_lit (heap_new w12 _) rfl) ex4_exp).mono ?_
  rintro e w13 ⟨rfl, hb⟩
  have B14 := Lib.hid (B13.out.trans (((Below.refl _ w12).alloc (Nat.le_refl _) (.cells (flatS (pcsF ex4) 2).toArray 35)).trans (hb.mono (by simp)) |>.mono B13.out.size))
  clear hb B13
  go_wp2_with fail
  go_ret
  exact ⟨rfl, B14.out⟩
end Go.Proofs.Ytbaibkckigdndaa
