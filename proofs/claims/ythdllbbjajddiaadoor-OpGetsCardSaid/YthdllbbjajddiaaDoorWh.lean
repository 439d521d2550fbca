/- The law OpWhole of layer 25 (op): it returns true at every input. -/
import Derived.Test.YthdllbbjajddiaaDoorAw
namespace Go.Proofs.YthdllbbjajddiaaDoor
open Go.RowKit Go.Maps Go.WideMaps
theorem arr_congr {w : World} {B : Nat} {A : Option Addr} {n : Nat} {f g : Nat → Value} (h : Arr w B A n f) (e : ∀ j, j < n → f j = g j) : Arr w B A n g := fun hn => by
  obtain ⟨b, off, e1, hlt, hc⟩ := h hn
  exact ⟨b, off, e1, hlt, fun j hj => e j hj ▸ hc j hj⟩
def lF (f : Nat → Int) (n : Nat) : List Int := (List.range n).map f
theorem lF_len (f : Nat → Int) (n : Nat) : (lF f n).length = n := by simp [lF]
theorem lF_at {f : Nat → Int} {n j : Nat} (h : j < n) : (lF f n).getD j 0 = f j := by
  rw [lF, List.getD_eq_getElem?_getD, List.getElem?_map, List.getElem?_range h]; rfl
theorem lF_byt {f : Nat → Int} {n : Nat} (h : ∀ i, i < n → 0 ≤ f i ∧ f i < 256) : Byt (lF f n) := fun x hx => by
  obtain ⟨i, hi, rfl⟩ := List.mem_map.1 hx
  exact h i (List.mem_range.1 hi)
/-- An op's rows are whole: it is what it is made of. -/
theorem op_is {o : OpR} {D1 : Array ElF} {D2 : Array ElP} (h1 : D1.toList.map Subtype.val = o.news) (h2 : D2.toList.map Subtype.val = o.puts) : opR o.kd o.at_ o.n o.sn (fun i => D1[i]!) D1.size (fun i => D2[i]!) D2.size = o := by
  unfold opR
  rw [nl_arr, pl_arr, h1, h2]
set_option maxRecDepth 100000 in
set_option maxHeartbeats 4000000 in
theorem whole6 (f : Nat → Int) (A : Option Addr) (n c : Nat) (W : World) (hnc : n ≤ c) (ha : Arr W W.heap.size A n fun j => .int .u8 (f j)) (hf : ∀ i, i < n → 0 ≤ f i ∧ f i < 256) (hnm : n ≤ 140737488355328) :
    Calls Tryd.prog 6 #[.slice A n c] W fun e W' => e = .returned (.bool true) ∧ Below W.heap.size W W' := by
  have HA := Lib.hid ha
  have HB := Lib.hid (lF_byt hf)
  clear ha hf
  go_enter Tryd.func6, Tryd.ntmps6
  go_wp2_with fail
  refine (awake8 W).mono ?_
  rintro e w1 ⟨rfl, hb⟩
  have B1 := Lib.hid hb
  clear hb
  by_cases h5 : 5000 < n
  · have t1 : decide ((5000 : Int) < n) = true := by simp; omega
    go_wp2_with fail
    go_ret
    exact ⟨rfl, B1.out⟩
  have t1 : decide ((5000 : Int) < n) = false := by simp; omega
  have X1 : Hid (Arr w1 w1.heap.size A n fun j => .int .u8 ((lF f n).getD j 0)) := Lib.hid (arr_congr ((HA.out.below B1.out (Nat.le_refl _)).more B1.out.size) fun j hj => by rw [lF_at hj])
  obtain ⟨l, hl⟩ : ∃ l, l = lF f n := ⟨_, rfl⟩
  have LL : Hid (l.length = n) := Lib.hid (by rw [hl]; exact lF_len f n)
  rw [← hl] at X1 HB
  clear hl HA
  go_wp2_with fail
  refine (get19 l A n c w1 LL.out (by omega) hnc HB.out X1.out).mono ?_
  rintro e w2 ⟨b2, ⟨hd, rfl⟩ | ⟨o, D1, A1, d1, D2, A2, d2, hd, rfl, e1, e2, f1, f2, o1, o2⟩⟩
  · have B2 := Lib.hid (B1.out.trans (b2.mono B1.out.size))
    have ZO := Lib.hid (opL_one 0 0 0 0 none 0 0 none 0 0)
    clear hd b2
    go_upto_region 6 with (refine wpList_boxed rfl 26 3 rfl rfl zOp (zeroVOp _) (.tmp 15) rfl rfl rfl zOp rfl rfl sizeOp rfl ZO.out ?_; intro w3 hb3 hh3 hs3)
    have RA : Hid (w3.rangeAt w2.heap.size 0 zOp) := Lib.hid (range_of hh3)
    have B3 := Lib.hid (B2.out.trans (hb3.mono B2.out.size))
    clear hb3 hh3 hs3
    go_wp2_with (first | (refine wpList_load_midG rfl 26 (.tmp 3) rfl _ 0 rfl zOp _ RA.out Tryd.underlying26 rfl sizeOp ?_) | (refine wpList_buildG rfl 26 [] rfl [] rfl _ (buildOp0 _) ?_))
    refine (same23 I0 P0 0 0 0 0 none none 0 0 0 none none 0 0 0 w3 (by omega) (by omega) (sarr0 _ _ _ _) (sarr0 _ _ _ _) (sarr0 _ _ _ _) (sarr0 _ _ _ _)).mono ?_
    rintro e w4 ⟨rfl, hb4⟩
    have B4 := Lib.hid (B3.out.trans (hb4.mono B3.out.size))
    clear hb4
    go_wp2_with fail
    go_ret
    exact ⟨rfl, B4.out⟩
  · obtain ⟨hr, hen, hdo⟩ := dec_some hd HB.out
    have hoo := op_is e1 e2
    have B2 := Lib.hid (B1.out.trans (b2.mono B1.out.size))
    have X2 := Lib.hid ((X1.out.below b2 (Nat.le_refl _)).more b2.size)
    obtain ⟨_, _, q1, s1, -⟩ := srow_arr (wideF fun i => D1[i]!) o1
    cases q1
    obtain ⟨_, _, q1, s2, -⟩ := srow_arr (wideP fun i => D2[i]!) o2
    cases q1
    have S1 := Lib.hid s1
    have S2 := Lib.hid s2
    have OO := Lib.hid (opL_one o.kd o.at_ o.n o.sn A1 D1.size d1 A2 D2.size d2)
    have HOO := Lib.hid hoo
    have HRT := Lib.hid hr
    have HEN := Lib.hid hen
    have hk := hdo.1
    clear hd e1 e2 o1 o2 hr hen hdo hoo b2 s1 s2
    go_upto_region 6 with (refine wpList_boxed rfl 26 3 rfl rfl zOp (zeroVOp _) (.tmp 15) rfl rfl rfl (opL o.kd o.at_ o.n o.sn A1 D1.size d1 A2 D2.size d2) rfl rfl sizeOp rfl OO.out ?_; intro w3 hb3 hh3 hs3)
    obtain ⟨p, hp⟩ : ∃ p, p = w2.heap.size := ⟨_, rfl⟩
    rw [← hp] at hh3 ⊢
    have P3 := Lib.hid hh3
    have RA : Hid (w3.rangeAt p 0 (opL o.kd o.at_ o.n o.sn A1 D1.size d1 A2 D2.size d2)) := Lib.hid (range_of hh3)
    have B3 := Lib.hid (B2.out.trans (hb3.mono B2.out.size))
    have X3 := Lib.hid ((X2.out.below hb3 (Nat.le_refl _)).more hb3.size)
    have S13 := Lib.hid ((S1.out.below hb3 (Nat.le_refl _)).more hb3.size)
    have S23 := Lib.hid ((S2.out.below hb3 (Nat.le_refl _)).more hb3.size)
    clear hb3 hh3 hs3 hp
    go_wp2_with (refine wpList_load_midG rfl 26 (.tmp 3) rfl p 0 rfl (opL o.kd o.at_ o.n o.sn A1 D1.size d1 A2 D2.size d2) _ RA.out Tryd.underlying26 rfl sizeOp ?_)
    refine (put12 (fun i => D1[i]!) (fun i => D2[i]!) o.kd o.at_ o.n o.sn A1 D1.size d1 A2 D2.size d2 w3 (by omega) (by omega) hk S13.out S23.out).mono ?_
    rw [HOO.out]
    rintro e w4 h
    obtain ⟨A4, c4, rfl, -, a4, l4, n4, b4⟩ := put_yes h HRT.out HEN.out LL.out
    have X4 := Lib.hid a4
    have X34 := Lib.hid (X3.out.below b4 (Nat.le_refl _))
    have P4 := Lib.hid ((b4.block p (heap_lt P3.out)).trans P3.out)
    have RA4 : Hid (w4.rangeAt p 0 (opL o.kd o.at_ o.n o.sn A1 D1.size d1 A2 D2.size d2)) := Lib.hid (range_of P4.out)
    have B4 := Lib.hid (B3.out.trans (b4.mono B3.out.size))
    have S14 := Lib.hid ((S13.out.below b4 (Nat.le_refl _)).more b4.size)
    have S24 := Lib.hid ((S23.out.below b4 (Nat.le_refl _)).more b4.size)
    have Z34 := Lib.hid b4.size
    clear h a4 l4 n4 b4
    go_wp2_with (refine wpList_load_midG rfl 26 (.tmp 3) rfl p 0 rfl (opL o.kd o.at_ o.n o.sn A1 D1.size d1 A2 D2.size d2) _ RA4.out Tryd.underlying26 rfl sizeOp ?_)
    refine (right10 (fun i => D1[i]!) (fun i => D2[i]!) o.kd o.at_ o.n o.sn A1 D1.size d1 A2 D2.size d2 w4 (by omega) (by omega) S14.out S24.out).mono ?_
    rw [HOO.out, HRT.out]
    rintro e w5 ⟨rfl, b5⟩
    have B5 := Lib.hid (B4.out.trans (b5.mono B4.out.size))
    have X5 := Lib.hid (X4.out.below b5 (Nat.le_refl _))
    have X35 := Lib.hid (X34.out.below b5 Z34.out)
    clear b5
    go_wp2_with fail
    refine (same16 (fun j => l.getD j 0) A A4 n c c4 _ _ w5 (by omega) X35.out X5.out).mono ?_
    rintro e w6 ⟨rfl, m, rfl⟩
    go_wp2_with fail
    go_ret
    exact ⟨rfl, below_drewN B5.out m⟩
end Go.Proofs.YthdllbbjajddiaaDoor
