/- The law LzExpands of layer 5 (lz): it returns true at every input. -/
import Derived.Test.YtbaibkckigdndaaJ
import Derived.Test.YtbaibkckigdndaaKh
namespace Go.Proofs.Ytbaibkckigdndaa
open Go.RowKit
theorem bv_range (l : List Int) : bv l = (List.range l.length).map fun i => Value.int .u8 (l.getD i 0) := by
  apply List.ext_getElem?
  intro i
  rw [List.getElem?_map]
  by_cases h : i < l.length
  · rw [bv_at l h, List.getElem?_range h]; rfl
  · rw [List.getElem?_eq_none (by rw [bv_len]; omega), List.getElem?_eq_none (by simp; omega)]; rfl
/-- Two rows that lie apart, in a list of their own. -/
theorem apart2 (w : World) (base : Nat) (Aa Ab : Option Addr) (na nb ca cb : Nat) (xa xb : List Int) (ha : w.ownsRow base 5 1 (.slice Aa na ca) na (bv xa)) (hb : w.ownsRow base 5 1 (.slice Ab nb cb) nb (bv xb)) (la : xa.length = na) (lb : xb.length = nb)
    (h1 : na ≤ 900000000) (h2 : nb ≤ 900000000) (dab : ∀ x, (Value.slice Aa na ca).ownBlock = some x → (Value.slice Ab nb cb).ownBlock ≠ some x) (hbase : base ≤ w.heap.size) :
    Calls Try.prog 14 #[.slice (some ⟨w.heap.size, 0, none⟩) 2 2] (w.alloc (.cells #[.slice Aa na ca, .slice Ab nb cb] 25)) fun e w' => e = .returned (.bool true) ∧ Keeps (fun x => (Value.slice Aa na ca).ownBlock = some x ∨ (Value.slice Ab nb cb).ownBlock = some x) w w' := by
  have hk : Keeps (fun _ => False) w (w.alloc (.cells #[.slice Aa na ca, .slice Ab nb cb] 25)) := Keeps.alloc _ w _
  rw [bv_range, la] at ha
  rw [bv_range, lb] at hb
  refine (apartB _ base 2 2 (some ⟨w.heap.size, 0, none⟩) (fun j => match j with | 0 => Aa | _ => Ab) (fun j => match j with | 0 => na | _ => nb) (fun j => match j with | 0 => ca | _ => cb) (by omega) (by omega) (fun j hj => ?_) (Arr.ofBlock 2 _ (heap_new w _) fun j hj => ?_) (fun j hj => ?_) (fun j k hj hk hne x hx => ?_) (by simp; omega)).mono ?_
  · match j, hj with
    | 0, _ => exact h1
    | 1, _ => exact h2
  · match j, hj with
    | 0, _ => rfl
    | 1, _ => rfl
  · match j, hj with
    | 0, _ => exact ⟨_, fun i hi => absurd hi (by omega), fun _ => rfl, hk.row ha fun _ _ h => h⟩
    | 1, _ => exact ⟨_, fun i hi => absurd hi (by omega), fun _ => rfl, hk.row hb fun _ _ h => h⟩
  · match j, hj, k, hk with
    | 0, _, 0, _ => exact absurd rfl hne
    | 0, _, 1, _ => exact dab x hx
    | 1, _, 0, _ => exact fun h => dab x h hx
    | 1, _, 1, _ => exact absurd rfl hne
  · rintro e w' ⟨he, hk2⟩
    refine ⟨he, (Keeps.alloc _ w _).trans hk2 fun x _ hx => ?_⟩
    obtain ⟨j, hj, hx⟩ := hx
    match j, hj with
    | 0, _ => exact .inl hx
    | 1, _ => exact .inr hx
/-- What Expand gives, said alike for both ways. -/
def outL (o : Option (List Int)) : List Int := o.getD []
theorem ExpPost.one {W : World} {o : Option (List Int)} {e : Ending} {w' : World} (h : ExpPost W o e w') : ∃ A c, e = .returned (.tuple #[.slice A (outL o).length c, .bool o.isSome]) ∧ w'.ownsRow W.heap.size 5 1 (.slice A (outL o).length c) (outL o).length (bv (outL o)) ∧ Below W.heap.size W w' := by
  rcases h with ⟨rfl, rfl, hb⟩ | ⟨out, v, rfl, rfl, h2, h3⟩
  · exact ⟨none, 0, rfl, ⟨rfl, .inl ⟨rfl, rfl⟩⟩, hb⟩
  · obtain ⟨A, c, rfl⟩ := row_slice h2
    exact ⟨A, c, rfl, h2, h3⟩
theorem outL_len {P : Nat → Pc} {n : Nat} : (outL (expP P n)).length ≤ 65536 := by
  cases e : expP P n with
  | none => simp [outL]
  | some o => exact expP_len e
theorem row_bytes {w : World} {base : Nat} {A : Option Addr} {c : Nat} {xs : List Int} {n : Nat} (h : w.ownsRow base 5 1 (.slice A n c) n (bv xs)) (hn : xs.length = n) : Arr w w.heap.size A n fun j => .int .u8 (xs.getD j 0) := by
  rw [bv_range, hn] at h
  obtain ⟨A', c', e, ha, -⟩ := row_arr h
  injection e with e1 e2 e3
  rw [e1]; exact ha
set_option maxRecDepth 100000 in
set_option maxHeartbeats 4000000 in
theorem expands3 (P : Nat → Pc) (A : Option Addr) (n c : Nat) (W : World) (hn : n ≤ 5864062014800) (hA : A = none → n = 0 ∧ c = 0) (hP : ∀ k, k < n → (P k).len ≤ 9223372036854775807) (ha : SArr W W.heap.size A n 3 (pcsF P)) :
    Calls Try.prog 3 #[.slice A n c] W fun e W' => e = .returned (.bool true) ∧ Below W.heap.size W W' := by
  have HA := Lib.hid ha
  have HN := Lib.hid hA
  have HP := Lib.hid hP
  clear ha hA hP
  by_cases h3 : 3000 < n
  · have t1 : decide ((3000 : Int) < n) = true := by simp; omega
    go_enter Try.func3, Try.ntmps3
    go_wp2_with fail
    refine (awake8 W).mono ?_
    rintro e w1 ⟨rfl, hb⟩
    have HB := Lib.hid hb
    clear hb
    go_wp2_with fail
    go_ret
    exact ⟨rfl, HB.out⟩
  · have t1 : decide ((3000 : Int) < n) = false := by simp; omega
    go_enter Try.func3, Try.ntmps3
    go_wp2_with fail
    refine (lent9 P A n c W hn HA.out HN.out).mono ?_
    rintro e w1 ⟨g, rfl, hg, hgh, hb⟩
    have HG := Lib.hid hgh
    have B1 := Lib.hid hb
    have hgl := heap_lt hgh
    clear hgh hb
    go_wp2_with fail
    refine (expand10 P _ n (n + 12) w1 (by omega) (lent_sarr HG.out)).mono ?_
    rintro e w2 hx
    obtain ⟨A2, c2, rfl, r2, hb2⟩ := hx.one
    have R2 := Lib.hid r2
    have HB2 := Lib.hid hb2
    have B2 := Lib.hid (B1.out.trans (hb2.mono B1.out.size))
    clear hx r2 hb2
    have hol := outL_len (P := P) (n := n)
    obtain ⟨xs, hxs⟩ : ∃ xs, xs = outL (expP P n) := ⟨_, rfl⟩
    obtain ⟨ok, hok⟩ : ∃ ok, ok = (expP P n).isSome := ⟨_, rfl⟩
    rw [← hxs] at R2 hol ⊢
    rw [← hok]
    obtain ⟨m, hm⟩ : ∃ m, m = xs.length := ⟨_, rfl⟩
    rw [← hm] at R2 hol ⊢
    have HXM := Lib.hid (And.intro hxs (And.intro hok hm))
    clear hxs hok hm
    go_wp2_with fail
    have HG2 := Lib.hid ((HB2.out.block g hgl).trans HG.out)
    refine (expand10 P _ n (n + 12) w2 (by omega) (lent_sarr HG2.out)).mono ?_
    rintro e w3 hx
    obtain ⟨A3, c3, rfl, r3, hb3⟩ := hx.one
    rw [← HXM.out.1, ← HXM.out.2.2] at r3 ⊢
    rw [← HXM.out.2.1]
    have R3 := Lib.hid r3
    have HB3 := Lib.hid hb3
    have R23 := Lib.hid ((Keeps.fresh (S := fun _ => False) hb3).row R2.out (fun _ _ h => h))
    have B3 := Lib.hid (B2.out.trans (hb3.mono B2.out.size))
    have DAB : Hid (∀ x, (Value.slice A2 m c2).ownBlock = some x → (Value.slice A3 m c3).ownBlock ≠ some x) := Lib.hid fun x h1 h2 => by
      have q1 := (R2.out.lt x h1).2
      have q2 := (r3.lt x h2).1
      omega
    clear hx r3 hb3
    go_wp2_with fail
    refine (expand11 P A n c w3 (by omega) HP.out ((HA.out.below B3.out (Nat.le_refl _)).more B3.out.size)).mono ?_
    rintro e w4 hx
    obtain ⟨A4, c4, rfl, r4, hb4⟩ := hx.one
    rw [← HXM.out.1, ← HXM.out.2.2] at r4 ⊢
    rw [← HXM.out.2.1]
    have R4 := Lib.hid r4
    have HB4 := Lib.hid hb4
    have R24 := Lib.hid ((Keeps.fresh (S := fun _ => False) hb4).row R23.out (fun _ _ h => h))
    have R34 := Lib.hid ((Keeps.fresh (S := fun _ => False) hb4).row R3.out (fun _ _ h => h))
    have B4 := Lib.hid (B3.out.trans (hb4.mono B3.out.size))
    clear hx r4 hb4
    go_wp2_with fail
    refine (same12 (fun j => xs.getD j 0) A2 A4 m c2 c4 _ _ w4 (by omega) (row_bytes R24.out HXM.out.2.2.symm) (row_bytes R4.out HXM.out.2.2.symm)).mono ?_
    rintro e w5 ⟨rfl, q, rfl⟩
    go_wp2_with fail
    have HG4 : Hid (w4.heap[g]? = _) := Lib.hid ((HB4.out.block g (by have := HB2.out.size; have := HB3.out.size; omega)).trans ((HB3.out.block g (by have := HB2.out.size; omega)).trans HG2.out))
    refine (kept13 P A g n c (w4.drewN q) hn ((HA.out.below (below_drewN B4.out q) (Nat.le_refl _)).more B4.out.size) HG4.out).mono ?_
    rintro e w6 ⟨rfl, hb6⟩
    have hbq := below_drewN (Below.refl w4.heap.size w4) q
    have R26 := Lib.hid ((Keeps.fresh (S := fun _ => False) (hbq.trans hb6)).row R24.out (fun _ _ h => h))
    have R36 := Lib.hid ((Keeps.fresh (S := fun _ => False) (hbq.trans hb6)).row R34.out (fun _ _ h => h))
    have B6 := Lib.hid (B4.out.trans ((hbq.trans hb6).mono B4.out.size))
    clear hbq hb6
    go_wp2_with fail
    refine (apart2 w6 W.heap.size A2 A3 m m c2 c3 xs xs (row_more R26.out B1.out.size) (row_more R36.out (Nat.le_trans B1.out.size HB2.out.size)) HXM.out.2.2.symm HXM.out.2.2.symm (by omega) (by omega) DAB.out B6.out.size).mono ?_
    rintro e w7 ⟨rfl, hk7⟩
    have B7 := Lib.hid (B6.out.trans (hk7.below (fun x hx => hx.elim (fun h => Nat.le_trans B1.out.size (R26.out.lt x h).1) fun h => Nat.le_trans (Nat.le_trans B1.out.size HB2.out.size) (R36.out.lt x h).1) B6.out.size))
    clear hk7
    go_wp2_with fail
    refine (awake8 w7).mono ?_
    rintro e w8 ⟨rfl, hb8⟩
    have B8 := Lib.hid (B7.out.trans (hb8.mono B7.out.size))
    clear hb8
    go_wp2_with fail
    go_ret
    exact ⟨rfl, B8.out⟩
end Go.Proofs.Ytbaibkckigdndaa
