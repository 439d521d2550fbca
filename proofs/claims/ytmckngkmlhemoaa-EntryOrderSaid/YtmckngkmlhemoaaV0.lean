/- Plain laws of entries (layer 14): a right item's entry says the item; keys stand in one order. -/
import Derived.Test.YtmckngkmlhemoaaT
namespace Go.Proofs.Ytmckngkmlhemoaa
open Go.RowKit
theorem getD_mid {A B C : List Int} {o j : Nat} (hA : A.length = o) (hj : j < B.length) : (A ++ (B ++ C)).getD (o + j) 0 = B.getD j 0 := by
  subst hA
  rw [List.getD_eq_getElem?_getD, List.getD_eq_getElem?_getD, List.getElem?_append_right (by omega), Nat.add_sub_cancel_left, List.getElem?_append_left hj]
/-- A number's four bytes say it. -/
theorem e8_four (A C : List Int) (n : Int) (o : Nat) (hA : A.length = o) (h0 : 0 ≤ n) (h1 : n < 4294967296) : e8 (A ++ (fourL n ++ C)) o = n := by
  have g : ∀ j, j < 4 → (A ++ (fourL n ++ C)).getD (o + j) 0 = (fourL n).getD j 0 := fun j hj => getD_mid hA hj
  simp only [e8, num_four, g 0 (by omega), g 1 (by omega), g 2 (by omega), g 3 (by omega)]
  simp only [fourL, List.getD_cons_zero, List.getD_cons_succ, b4, Nat.mul_zero, Nat.sub_zero, Nat.mul_one, Nat.reduceSub, Nat.reduceMul]
  simp only [Int.reducePow]
  omega
theorem inB_iff {n a b : Int} : inB n a b = true ↔ a ≤ n ∧ n ≤ b := by simp [inB]
theorem place_bd {a s u r : Int} (h : placeB a s u r true = true) : (0 ≤ a ∧ a < 4294967296) ∧ (0 ≤ s ∧ s < 4294967296) ∧ (0 ≤ u ∧ u < 4294967296) ∧ (0 ≤ r ∧ r < 4294967296) := by
  simp only [placeB, Bool.and_eq_true, inB_iff, ↓reduceIte] at h
  omega
theorem sub_mid {A B C : List Int} {o m : Nat} (hA : A.length = o) (hB : B.length = m) : ((A ++ (B ++ C)).drop o).take m = B := by
  subst hA hB
  rw [List.drop_left, List.take_left]
theorem back_it {i : Itm} (ok : i.Ok) (hr : i.right = true) : i.ent.it = i := by
  by_cases h1 : i.kind = 1
  · obtain ⟨hp, hc⟩ := (right1_iff ok h1).1 hr
    have hb := cells_inj (bare1_ok ok) ok hc
    obtain ⟨q1, q2, q3, q4⟩ := place_bd hp
    have hkv : i.ent.kv = 1 :: (i.key ++ (List.replicate 7 0 ++ (fourL i.pa ++ (fourL i.ps ++ (fourL i.pu ++ (fourL i.pr ++ List.replicate 24 0)))))) := by
      unfold Itm.ent
      rw [if_pos h1]
      simp [Ent.kv, fours]
    have hk := ok.key.1
    have hkd : i.ent.kd = 1 := by rw [Ent.kd, hkv]; rfl
    rw [it_1 hkd]
    refine Eq.trans ?_ hb
    unfold Ent.it1 Itm.bare1
    have a1 : e8 i.ent.kv 40 = i.pa := by
      rw [hkv, show 1 :: (i.key ++ (List.replicate 7 0 ++ (fourL i.pa ++ (fourL i.ps ++ (fourL i.pu ++ (fourL i.pr ++ List.replicate 24 0)))))) = (1 :: (i.key ++ List.replicate 7 0)) ++ (fourL i.pa ++ (fourL i.ps ++ (fourL i.pu ++ (fourL i.pr ++ List.replicate 24 0)))) from by simp]
      exact e8_four _ _ _ _ (by simp [hk]) q1.1 q1.2
    have a2 : e8 i.ent.kv 44 = i.ps := by
      rw [hkv, show 1 :: (i.key ++ (List.replicate 7 0 ++ (fourL i.pa ++ (fourL i.ps ++ (fourL i.pu ++ (fourL i.pr ++ List.replicate 24 0)))))) = (1 :: (i.key ++ (List.replicate 7 0 ++ fourL i.pa))) ++ (fourL i.ps ++ (fourL i.pu ++ (fourL i.pr ++ List.replicate 24 0))) from by simp]
      exact e8_four _ _ _ _ (by simp [hk, fourL]) q2.1 q2.2
    have a3 : e8 i.ent.kv 48 = i.pu := by
      rw [hkv, show 1 :: (i.key ++ (List.replicate 7 0 ++ (fourL i.pa ++ (fourL i.ps ++ (fourL i.pu ++ (fourL i.pr ++ List.replicate 24 0)))))) = (1 :: (i.key ++ (List.replicate 7 0 ++ (fourL i.pa ++ fourL i.ps)))) ++ (fourL i.pu ++ (fourL i.pr ++ List.replicate 24 0)) from by simp]
      exact e8_four _ _ _ _ (by simp [hk, fourL]) q3.1 q3.2
    have a4 : e8 i.ent.kv 52 = i.pr := by
      rw [hkv, show 1 :: (i.key ++ (List.replicate 7 0 ++ (fourL i.pa ++ (fourL i.ps ++ (fourL i.pu ++ (fourL i.pr ++ List.replicate 24 0)))))) = (1 :: (i.key ++ (List.replicate 7 0 ++ (fourL i.pa ++ (fourL i.ps ++ fourL i.pu))))) ++ (fourL i.pr ++ List.replicate 24 0) from by simp]
      exact e8_four _ _ _ _ (by simp [hk, fourL]) q4.1 q4.2
    have a5 : (i.ent.kv.drop 1).take 32 = i.key := by
      rw [hkv, List.drop_succ_cons, List.drop_zero]
      exact List.take_left' hk
    rw [a1, a2, a3, a4, a5]
  by_cases h2 : i.kind = 2
  · obtain ⟨hp, hc⟩ := (right2_iff ok h2).1 hr
    have hb := cells_inj (bare2_ok ok) ok hc
    simp only [Bool.and_eq_true, inB_iff] at hp
    obtain ⟨⟨⟨p1, p2⟩, p3⟩, p4⟩ := hp
    have hs := ok.skey.1
    have hkv : i.ent.kv = 2 :: (fourL i.sn ++ (fourL i.un ++ (List.replicate 31 0 ++ (i.skey ++ (i.so :: i.sm :: List.replicate 6 0))))) := by
      unfold Itm.ent
      rw [if_neg (by omega), if_pos h2, show i.so % 256 = i.so from by omega, show i.sm % 256 = i.sm from by omega]
      simp [Ent.kv, fours]
    have hkd : i.ent.kd = 2 := by rw [Ent.kd, hkv]; rfl
    rw [it_2 hkd]
    refine Eq.trans ?_ hb
    unfold Ent.it2 Itm.bare2
    have a1 : e8 i.ent.kv 1 = i.sn := by
      rw [hkv, show 2 :: (fourL i.sn ++ (fourL i.un ++ (List.replicate 31 0 ++ (i.skey ++ (i.so :: i.sm :: List.replicate 6 0))))) = [2] ++ (fourL i.sn ++ (fourL i.un ++ (List.replicate 31 0 ++ (i.skey ++ (i.so :: i.sm :: List.replicate 6 0))))) from rfl]
      exact e8_four _ _ _ _ rfl (by omega) (by omega)
    have a2 : e8 i.ent.kv 5 = i.un := by
      rw [hkv, show 2 :: (fourL i.sn ++ (fourL i.un ++ (List.replicate 31 0 ++ (i.skey ++ (i.so :: i.sm :: List.replicate 6 0))))) = (2 :: fourL i.sn) ++ (fourL i.un ++ (List.replicate 31 0 ++ (i.skey ++ (i.so :: i.sm :: List.replicate 6 0)))) from rfl]
      exact e8_four _ _ _ _ rfl (by omega) (by omega)
    have e3 : i.ent.kv = (2 :: (fourL i.sn ++ (fourL i.un ++ List.replicate 31 0))) ++ (i.skey ++ (i.so :: i.sm :: List.replicate 6 0)) := by rw [hkv]; simp
    have a3 : (i.ent.kv.drop 40).take 32 = i.skey := by
      rw [e3]
      exact sub_mid (by simp [fourL]) hs
    have a4 : i.ent.kv.getD 72 0 = i.so := by
      rw [e3, show (2 :: (fourL i.sn ++ (fourL i.un ++ List.replicate 31 0))) ++ (i.skey ++ (i.so :: i.sm :: List.replicate 6 0)) = ((2 :: (fourL i.sn ++ (fourL i.un ++ List.replicate 31 0))) ++ i.skey) ++ ([i.so] ++ (i.sm :: List.replicate 6 0)) from by simp]
      exact getD_mid (o := 72) (j := 0) (by simp [fourL, hs]) (by simp)
    have a5 : i.ent.kv.getD 73 0 = i.sm := by
      rw [e3, show (2 :: (fourL i.sn ++ (fourL i.un ++ List.replicate 31 0))) ++ (i.skey ++ (i.so :: i.sm :: List.replicate 6 0)) = ((2 :: (fourL i.sn ++ (fourL i.un ++ List.replicate 31 0))) ++ i.skey) ++ ([i.so, i.sm] ++ List.replicate 6 0) from by simp]
      exact getD_mid (o := 72) (j := 1) (by simp [fourL, hs]) (by simp)
    rw [a1, a2, a3, a4, a5]
  by_cases h3 : i.kind = 3
  · obtain ⟨hp, hc⟩ := (right3_iff ok h3).1 hr
    have hb := cells_inj (bare3_ok ok) ok hc
    rw [inB_iff] at hp
    have hkv : i.ent.kv = 3 :: (fourL i.sn ++ (List.replicate 35 0 ++ List.replicate 40 0)) := by
      unfold Itm.ent
      rw [if_neg (by omega), if_neg (by omega), h3]
      simp [Ent.kv, fours]
    have hkd : i.ent.kd = 3 := by rw [Ent.kd, hkv]; rfl
    have hi : i.ent.it = i.ent.it3 := (if_neg (by omega)).trans ((if_neg (by omega)).trans (if_pos hkd))
    rw [hi]
    refine Eq.trans ?_ hb
    unfold Ent.it3 Itm.bare3
    have a1 : e8 i.ent.kv 1 = i.sn := by
      rw [hkv, show 3 :: (fourL i.sn ++ (List.replicate 35 0 ++ List.replicate 40 0)) = [3] ++ (fourL i.sn ++ (List.replicate 35 0 ++ List.replicate 40 0)) from rfl]
      exact e8_four _ _ _ _ rfl (by omega) (by omega)
    rw [a1]
  · rw [Itm.right0 h1 h2 h3] at hr
    cases hr
theorem back_out {i : Itm} (ok : i.Ok) (hr : i.right = true) : itemOut i.ent = .tuple #[.agg i.cells.toArray, .int .i64 0] := by
  have h := back_it ok hr
  have q := itemOut_t (e := i.ent) (by rw [h, hr]) (by rw [h])
  rwa [h] at q
theorem cells_kv_iff (e d : Ent) : e.cells = d.cells ↔ e.kv = d.kv := ⟨u8l_inj, fun h => by rw [Ent.cells_kv, Ent.cells_kv, h]⟩
theorem kv_inj {e d : Ent} (he : e.Ok) (hd : d.Ok) (h : e.kv = d.kv) : e = d := by
  obtain ⟨h1, h2⟩ := List.append_inj h (by rw [he.k.1, hd.k.1])
  cases e
  cases d
  simp_all
/-- Right items have one entry just if they are one. -/
theorem ent_inj {i k : Itm} (oi : i.Ok) (ok : k.Ok) (hi : i.right = true) (hk : k.right = true) : i.ent.cells = k.ent.cells ↔ i.cells = k.cells := by
  constructor
  · intro h
    have h1 := kv_inj (ent_ok oi) (ent_ok ok) ((cells_kv_iff _ _).1 h)
    rw [← back_it oi hi, ← back_it ok hk, h1]
  · intro h
    rw [cells_inj oi ok h]
/-! Keys in order. -/
theorem cmp_anti : ∀ (a b : List Int), cmpI b a = -cmpI a b
  | [], [] => rfl
  | [], _ :: _ => rfl
  | _ :: _, [] => rfl
  | x :: a, y :: b => by
    have ih := cmp_anti a b
    simp only [cmpI]
    split <;> split <;> first | omega | (exact ih) | rfl
theorem cmp_eq : ∀ {a b : List Int}, a.length = b.length → (cmpI a b = 0 ↔ a = b)
  | [], [], _ => by simp [cmpI]
  | [], _ :: _, h => by simp at h
  | _ :: _, [], h => by simp at h
  | x :: a, y :: b, h => by
    have ih := cmp_eq (a := a) (b := b) (by simpa using h)
    simp only [cmpI, List.cons.injEq]
    split
    · constructor
      · intro q; cases q
      · rintro ⟨rfl, _⟩; omega
    split
    · constructor
      · intro q; cases q
      · rintro ⟨rfl, _⟩; omega
    · rw [ih]
      constructor
      · intro q; exact ⟨by omega, q⟩
      · exact fun q => q.2
theorem cmp_cases : ∀ (a b : List Int), cmpI a b = -1 ∨ cmpI a b = 0 ∨ cmpI a b = 1
  | [], [] => by simp [cmpI]
  | [], _ :: _ => by simp [cmpI]
  | _ :: _, [] => by simp [cmpI]
  | x :: a, y :: b => by
    have ih := cmp_cases a b
    simp only [cmpI]
    split
    · simp
    split
    · simp
    · exact ih
/-- From a to b to c: it is no step back, and a step if one of the two is. -/
theorem cmp_trans : ∀ {a b c : List Int}, cmpI a b ≤ 0 → cmpI b c ≤ 0 → cmpI a c ≤ 0 ∧ (cmpI a c = 0 → cmpI a b = 0 ∧ cmpI b c = 0)
  | [], [], [], _, _ => by simp [cmpI]
  | [], [], _ :: _, _, _ => by simp [cmpI]
  | [], _ :: _, [], _, h => by simp [cmpI] at h
  | [], _ :: _, _ :: _, _, _ => by simp [cmpI]
  | _ :: _, [], _, h, _ => by simp [cmpI] at h
  | _ :: _, _ :: _, [], _, h => by simp [cmpI] at h
  | x :: a, y :: b, z :: c, h1, h2 => by
    have ih := cmp_trans (a := a) (b := b) (c := c)
    simp only [cmpI] at h1 h2 ⊢
    by_cases p : x < y
    · rw [if_pos p] at h1 ⊢
      by_cases q : y < z
      · rw [if_pos q, if_pos (by omega)]; simp
      · rw [if_neg q] at h2 ⊢
        by_cases q2 : z < y
        · rw [if_pos q2] at h2; omega
        · rw [if_pos (show x < z by omega)]; simp
    · rw [if_neg p] at h1 ⊢
      by_cases p2 : y < x
      · rw [if_pos p2] at h1; omega
      · rw [if_neg p2] at h1 ⊢
        obtain rfl : x = y := by omega
        by_cases q : x < z
        · rw [if_pos q]; simp
        · simp only [if_neg q] at h2 ⊢
          by_cases q2 : z < x
          · rw [if_pos q2] at h2; omega
          · simp only [if_neg q2] at h2 ⊢
            exact ih h1 h2
theorem cmp_four {a b : Int} (ha : 0 ≤ a ∧ a < 4294967296) (hb : 0 ≤ b ∧ b < 4294967296) (xs ys : List Int) : cmpI (fourL a ++ xs) (fourL b ++ ys) = if sg a b = 0 then cmpI xs ys else sg a b := by
  simp only [fourL, List.cons_append, List.nil_append, cmpI, b4, Nat.mul_zero, Nat.sub_zero, Nat.mul_one, Nat.reduceSub, Nat.reduceMul, Int.reducePow]
  by_cases h1 : a < b
  · have e : sg a b = -1 := if_pos h1
    rw [e, if_neg (show ¬ (-1 : Int) = 0 by omega)]
    split
    · rfl
    split
    · omega
    split
    · rfl
    split
    · omega
    split
    · rfl
    split
    · omega
    split
    · rfl
    · omega
  · by_cases h2 : b < a
    · have e : sg a b = 1 := (if_neg h1).trans (if_pos h2)
      rw [e, if_neg (show ¬ (1 : Int) = 0 by omega)]
      split
      · omega
      split
      · rfl
      split
      · omega
      split
      · rfl
      split
      · omega
      split
      · rfl
      split
      · omega
      split
      · rfl
      · omega
    · obtain rfl : a = b := by omega
      have e : sg a a = 0 := by simp [sg]
      rw [e]
      simp
/-- What is wanted of two right items. -/
def want (i k : Itm) : Int := if sg i.kind k.kind = 0 then (if sg i.sn k.sn = 0 then sg i.un k.un else sg i.sn k.sn) else sg i.kind k.kind
theorem sg_self (a : Int) : sg a a = 0 := by simp [sg]
theorem sg_zero {a b : Int} (h : sg a b = 0) : a = b := by
  unfold sg at h
  split at h
  · cases h
  split at h
  · cases h
  · omega
theorem head_k (i : Itm) : ∃ t, i.ent.k = i.kind :: t := by
  by_cases h1 : i.kind = 1
  · unfold Itm.ent; rw [if_pos h1, h1]; exact ⟨_, rfl⟩
  by_cases h2 : i.kind = 2
  · unfold Itm.ent; rw [if_neg h1, if_pos h2, h2]; exact ⟨_, rfl⟩
  · unfold Itm.ent; rw [if_neg h1, if_neg h2]; exact ⟨_, rfl⟩
theorem order_want {i k : Itm} (oi : i.Ok) (ok : k.Ok) (hi : i.right = true) (hk : k.right = true) (hn : ¬ (i.kind = 1 ∧ k.kind = 1)) : cmpI i.ent.k k.ent.k = want i k := by
  by_cases hs : sg i.kind k.kind = 0
  · have hkk := sg_zero hs
    rw [want, if_pos hs]
    have h1 : i.kind ≠ 1 := fun h => hn ⟨h, by omega⟩
    have h1' : k.kind ≠ 1 := by omega
    by_cases h2 : i.kind = 2
    · have h2' : k.kind = 2 := by omega
      obtain ⟨p, _⟩ := (right2_iff oi h2).1 hi
      obtain ⟨p', _⟩ := (right2_iff ok h2').1 hk
      simp only [Bool.and_eq_true, inB_iff] at p p'
      have e1 : i.ent.k = 2 :: (fourL i.sn ++ (fourL i.un ++ List.replicate 31 0)) := by
        unfold Itm.ent; rw [if_neg h1, if_pos h2]; simp [fours]
      have e2 : k.ent.k = 2 :: (fourL k.sn ++ (fourL k.un ++ List.replicate 31 0)) := by
        unfold Itm.ent; rw [if_neg h1', if_pos h2']; simp [fours]
      rw [e1, e2, cmpI, if_neg (by omega), if_neg (by omega), cmp_four (by omega) (by omega), cmp_four (by omega) (by omega), cmp_self]
      split
      · split
        · rename_i q; exact q.symm
        · rfl
      · rfl
    · by_cases h3 : i.kind = 3
      · have h3' : k.kind = 3 := by omega
        have h2' : k.kind ≠ 2 := by omega
        obtain ⟨p, hc⟩ := (right3_iff oi h3).1 hi
        obtain ⟨p', hc'⟩ := (right3_iff ok h3').1 hk
        have hb := cells_inj (bare3_ok oi) oi hc
        have hb' := cells_inj (bare3_ok ok) ok hc'
        have u1 : i.un = 0 := by rw [← hb]; rfl
        have u2 : k.un = 0 := by rw [← hb']; rfl
        simp only [inB_iff] at p p'
        have e1 : i.ent.k = 3 :: (fourL i.sn ++ List.replicate 35 0) := by
          unfold Itm.ent; rw [if_neg h1, if_neg h2, h3]; simp [fours]
        have e2 : k.ent.k = 3 :: (fourL k.sn ++ List.replicate 35 0) := by
          unfold Itm.ent; rw [if_neg h1', if_neg h2', h3']; simp [fours]
        rw [e1, e2, cmpI, if_neg (by omega), if_neg (by omega), cmp_four (by omega) (by omega), cmp_self, u1, u2, sg_self]
      · rw [Itm.right0 h1 h2 h3] at hi
        cases hi
  · rw [want, if_neg hs]
    obtain ⟨t, e1⟩ := head_k i
    obtain ⟨t', e2⟩ := head_k k
    rw [e1, e2, cmpI]
    unfold sg at hs ⊢
    split
    · rfl
    · rename_i q
      rw [if_neg q] at hs
      split
      · rfl
      · rename_i q2
        rw [if_neg q2] at hs
        exact absurd rfl hs
/-- Of two right items == tells the same as of their entries. -/
theorem both_eq {i k : Itm} (oi : i.Ok) (ok : k.Ok) (hi : i.right = true) (hk : k.right = true) : ∃ rr : Bool, (∀ u, EqRun Try.prog 35 i.ent.cells.toArray k.ent.cells.toArray u rr) ∧ ∀ u, EqRun Try.prog 30 i.cells.toArray k.cells.toArray u rr := by
  by_cases h : i.cells = k.cells
  · refine ⟨true, fun u => ?_, fun u => ?_⟩
    · obtain ⟨r, hr, hiff⟩ := eqr35 (ent_ok oi) (ent_ok ok) u
      rwa [hiff.2 ((ent_inj oi ok hi hk).2 h)] at hr
    · obtain ⟨r, hr, hiff⟩ := eqr30 oi ok u
      rwa [hiff.2 h] at hr
  · refine ⟨false, fun u => ?_, fun u => ?_⟩
    · obtain ⟨r, hr, hiff⟩ := eqr35 (ent_ok oi) (ent_ok ok) u
      cases r
      · exact hr
      · exact absurd ((ent_inj oi ok hi hk).1 (hiff.1 rfl)) h
    · obtain ⟨r, hr, hiff⟩ := eqr30 oi ok u
      cases r
      · exact hr
      · exact absurd (hiff.1 rfl) h
end Go.Proofs.Ytmckngkmlhemoaa
