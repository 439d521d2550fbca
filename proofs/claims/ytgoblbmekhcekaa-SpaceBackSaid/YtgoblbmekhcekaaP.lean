/- The law SpaceBack of layer 19 (space): it returns true at every input. Printed by genP.py. -/
import Derived.Test.YtgoblbmekhcekaaO
namespace Go.Proofs.Ytgoblbmekhcekaa
open Go.RowKit
/-- Takes, one after the other. -/
def runs (g : Geo) (D : Nat → Deed) (s : Nw × List Nw) : Nat → Nw × List Nw
  | 0 => s
  | k + 1 => ((takeR g (runs g D s k).1 (runs g D s k).2 (D k).num (D k).deep).n, (takeR g (runs g D s k).1 (runs g D s k).2 (D k).num (D k).deep).was)
def resR (g : Geo) (D : Nat → Deed) (s : Nw × List Nw) (k : Nat) : TakeR := takeR g (runs g D s k).1 (runs g D s k).2 (D k).num (D k).deep
theorem takeR_was (g : Geo) (n : Nw) (was : List Nw) (s : Int) (deep : Bool) : ((takeR g n was s deep).n = n ∧ (takeR g n was s deep).was = was) ∨ (takeR g n was s deep).was = was ++ [n] := by
  unfold takeR
  split
  · exact .inl ⟨rfl, rfl⟩
  · split
    · split
      · exact .inl ⟨rfl, rfl⟩
      · exact .inr rfl
    · exact .inr rfl
theorem runs_len (g : Geo) (D : Nat → Deed) (s : Nw × List Nw) : ∀ k, (runs g D s k).2.length ≤ s.2.length + k
  | 0 => Nat.le_refl _
  | k + 1 => by
    have h := runs_len g D s k
    rcases takeR_was g (runs g D s k).1 (runs g D s k).2 (D k).num (D k).deep with ⟨-, h2⟩ | h2
    · show (takeR g (runs g D s k).1 (runs g D s k).2 (D k).num (D k).deep).was.length ≤ _
      rw [h2]; omega
    · show (takeR g (runs g D s k).1 (runs g D s k).2 (D k).num (D k).deep).was.length ≤ _
      rw [h2, List.length_append]; simp; omega
theorem runs_back (g : Geo) (D : Nat → Deed) (s : Nw × List Nw) : ∀ k, runs g D s k = s ∨ ((runs g D s k).2[s.2.length]? = some s.1 ∧ (runs g D s k).2.take s.2.length = s.2)
  | 0 => .inl rfl
  | k + 1 => by
    rcases takeR_was g (runs g D s k).1 (runs g D s k).2 (D k).num (D k).deep with ⟨h1, h2⟩ | h2
    · have e : runs g D s (k + 1) = runs g D s k := by rw [runs, h1, h2]
      rw [e]; exact runs_back g D s k
    · have e : (runs g D s (k + 1)).2 = (runs g D s k).2 ++ [(runs g D s k).1] := h2
      right
      rw [e]
      rcases runs_back g D s k with h | ⟨h3, h4⟩
      · rw [h]; simp
      · have hl : s.2.length < (runs g D s k).2.length := (List.getElem?_eq_some_iff.1 h3).1
        rw [List.getElem?_append_left hl, List.take_append_of_le_length (by omega)]
        exact ⟨h3, h4⟩
/-- What was taken is undone. -/
theorem back_runs (g : Geo) (D : Nat → Deed) (s : Nw × List Nw) (k : Nat) : backR (runs g D s k).1 (runs g D s k).2 (s.2.length : Nat) = ⟨s.1, s.2, 0⟩ := by
  unfold backR
  rcases runs_back g D s k with h | ⟨h3, h4⟩
  · rw [h, if_neg (by omega), Int.toNat_natCast, List.getElem?_eq_none (Nat.le_refl _)]
  · have hl : s.2.length < (runs g D s k).2.length := (List.getElem?_eq_some_iff.1 h3).1
    rw [if_neg (by omega), Int.toNat_natCast, h3, h4]
/-- What the first k told, one behind the other. -/
def tellL (g : Geo) (D : Nat → Deed) (s : Nw × List Nw) : Nat → List Value
  | 0 => []
  | k + 1 => tellL g D s k ++ [.int .i64 (resR g D s k).at_, .int .i64 (resR g D s k).err]
theorem tellL_len (g : Geo) (D : Nat → Deed) (s : Nw × List Nw) : ∀ k, (tellL g D s k).length = 2 * k
  | 0 => rfl
  | k + 1 => by rw [tellL, List.length_append, tellL_len g D s k]; simp; omega
theorem tellL_at (g : Geo) (D : Nat → Deed) (s : Nw × List Nw) : ∀ n k, k < n → (tellL g D s n)[2 * k]? = some (.int .i64 (resR g D s k).at_) ∧ (tellL g D s n)[2 * k + 1]? = some (.int .i64 (resR g D s k).err)
  | 0, _, h => absurd h (by omega)
  | n + 1, k, h => by
    have hl := tellL_len g D s n
    by_cases e : k = n
    · subst e
      rw [tellL, List.getElem?_append_right (by omega), List.getElem?_append_right (by omega), hl]
      simp
    · rw [tellL, List.getElem?_append_left (by omega), List.getElem?_append_left (by omega)]
      exact tellL_at g D s n k (by omega)
/-- A space and a row that a law keeps beside it. -/
def Beside (W w : World) (b : Nat) (g : Geo) (s : Nw × List Nw) (v : Value) (n : Nat) (xs : List Value) : Prop :=
  ∃ X : Nat → Prop, SpX w X b g s.1 s.2 ∧ (∀ k, X k → W.heap.size ≤ k) ∧ (∀ k, v.ownBlock = some k → ¬ X k) ∧ w.ownsRow W.heap.size 3 1 v n xs ∧ Below W.heap.size W w
theorem Beside.go {W w w' : World} {b : Nat} {g : Geo} {s : Nw × List Nw} {v : Value} {n : Nat} {xs : List Value} (h : Beside W w b g s v n xs) (hb : Below w.heap.size w w') : Beside W w' b g s v n xs := by
  obtain ⟨X, h1, h2, h3, h4, h5⟩ := h
  exact ⟨X, h1.go hb, h2, h3, (Keeps.fresh (S := fun _ => False) hb).row h4 (fun _ _ h => h), h5.trans (hb.mono h5.size)⟩
theorem beside_turn {W w w' : World} {X : Nat → Prop} {b : Nat} {g : Geo} {s : Nw × List Nw} {v u : Value} {n : Nat} {xs : List Value} {e : Ending} (h2 : ∀ k, X k → W.heap.size ≤ k) (h3 : ∀ k, v.ownBlock = some k → ¬ X k) (h4 : w.ownsRow W.heap.size 3 1 v n xs) (h5 : Below W.heap.size W w)
    (hg : Goes w X b g s.1 s.2 u e w') : Beside W w' b g s v n xs := by
  obtain ⟨-, q1, q2⟩ := hg
  refine ⟨_, q1, fun k hk => hk.elim (h2 k) fun h => Nat.le_trans h5.size h, fun k hk hx => ?_, q2.row h4 h3, h5.trans (q2.below h2 h5.size)⟩
  rcases hx with hx | hx
  · exact h3 k hk hx
  · have := (h4.lt k hk).2; omega
theorem Beside.own {W w : World} {b : Nat} {g : Geo} {s : Nw × List Nw} {v : Value} {n : Nat} {xs : List Value} (h : Beside W w b g s v n xs) : w.ownsRow W.heap.size 3 1 v n xs := by
  obtain ⟨X, h1, h2, h3, h4, h5⟩ := h
  exact h4
theorem Beside.below {W w : World} {b : Nat} {g : Geo} {s : Nw × List Nw} {v : Value} {n : Nat} {xs : List Value} (h : Beside W w b g s v n xs) : Below W.heap.size W w := by
  obtain ⟨X, h1, h2, h3, h4, h5⟩ := h
  exact h5
theorem Beside.base {W w : World} {b : Nat} {g : Geo} {s : Nw × List Nw} {v : Value} {n : Nat} {xs : List Value} (h : Beside W w b g s v n xs) : W.heap.size ≤ w.heap.size := by
  obtain ⟨X, h1, h2, h3, h4, h5⟩ := h
  exact h5.size
/-- The row beside a space grows. -/
theorem beside_append {W w w' : World} {o : Obj} {b : Nat} {g : Geo} {s : Nw × List Nw} {v : Value} {n n' g2 cap : Nat} {xs xs' : List Value} (h : Beside W w b g s v n xs) (hown : w'.ownsRow W.heap.size 3 1 (.slice (some ⟨g2, 0, none⟩) n' cap) n' xs') (hgr : (w.alloc o).grownBy w' v.ownBlock)
    (hat : v.ownBlock = some g2 ∨ g2 = (w.alloc o).heap.size) : Beside W w' b g s (.slice (some ⟨g2, 0, none⟩) n' cap) n' xs' := by
  obtain ⟨X, h1, h2, h3, h4, h5⟩ := h
  have k1 := (h1.lt.go ((Below.refl _ w).alloc (Nat.le_refl _) o)).keeps (S := fun k => v.ownBlock = some k) (Keeps.grown hgr fun k hk => hk) (fun k hk e => h3 k e hk.1)
  refine ⟨_, k1, fun k hk => h2 k hk.1, fun k hk hx => ?_, hown, ?_⟩
  · obtain rfl : g2 = k := Option.some.inj hk
    rcases hat with h | h
    · exact h3 _ h hx.1
    · simp at h; omega
  · refine (h5.alloc h5.size o).grown hgr (by have := h5.size; simp; omega) fun k hk => ?_
    exact (h4.lt k hk).1
theorem take_beside (sz : Int) (deep : Bool) {W w : World} {b : Nat} {g : Geo} {s : Nw × List Nw} {v : Value} {n : Nat} {xs : List Value} (h : Beside W w b g s v n xs) (hl : s.2.length ≤ 100000) :
    Calls Try.prog 11 #[.pointer (some ⟨b, 0, none⟩), .int .i64 sz, .bool deep] w fun e w' => e = .returned (.tuple #[.int .i64 (takeR g s.1 s.2 sz deep).at_, .int .i64 (takeR g s.1 s.2 sz deep).err]) ∧ Beside W w' b g ((takeR g s.1 s.2 sz deep).n, (takeR g s.1 s.2 sz deep).was) v n xs := by
  obtain ⟨X, h1, h2, h3, h4, h5⟩ := h
  exact (takeX sz deep w X b g s.1 s.2 h1 hl).mono fun e w' hg => ⟨hg.1, beside_turn (s := ((takeR g s.1 s.2 sz deep).n, (takeR g s.1 s.2 sz deep).was)) h2 h3 h4 h5 hg⟩
theorem back_beside (mark : Int) {W w : World} {b : Nat} {g : Geo} {s : Nw × List Nw} {v : Value} {n : Nat} {xs : List Value} (h : Beside W w b g s v n xs) :
    Calls Try.prog 15 #[.pointer (some ⟨b, 0, none⟩), .int .i64 mark] w fun e w' => e = .returned (.int .i64 (backR s.1 s.2 mark).err) ∧ Beside W w' b g ((backR s.1 s.2 mark).n, (backR s.1 s.2 mark).was) v n xs := by
  obtain ⟨X, h1, h2, h3, h4, h5⟩ := h
  exact (backX mark w X b g s.1 s.2 h1).mono fun e w' hg => ⟨hg.1, beside_turn (s := ((backR s.1 s.2 mark).n, (backR s.1 s.2 mark).was)) h2 h3 h4 h5 hg⟩
theorem free_beside {W w : World} {b : Nat} {g : Geo} {s : Nw × List Nw} {v : Value} {n : Nat} {xs : List Value} (h : Beside W w b g s v n xs) :
    Calls Try.prog 10 #[.pointer (some ⟨b, 0, none⟩)] w fun e w' => e = .returned (.int .i64 (s.1.fr.count true : Nat)) ∧ Beside W w' b g s v n xs := by
  have hh := h
  obtain ⟨X, h1, -⟩ := h
  exact (freeX w X b g s.1 s.2 h1).mono fun e w' hg => ⟨hg.1, hh.go hg.2⟩
theorem open_beside {W w : World} {b : Nat} {g : Geo} {s : Nw × List Nw} {v : Value} {n : Nat} {xs : List Value} (h : Beside W w b g s v n xs) : Calls Try.prog 13 #[.pointer (some ⟨b, 0, none⟩)] w fun e w' => e = .returned (.int .i64 s.1.op) ∧ w = w' := by
  obtain ⟨X, h1, -⟩ := h
  exact openX w X b g s.1 s.2 h1
theorem mark_beside {W w : World} {b : Nat} {g : Geo} {s : Nw × List Nw} {v : Value} {n : Nat} {xs : List Value} (h : Beside W w b g s v n xs) : Calls Try.prog 14 #[.pointer (some ⟨b, 0, none⟩)] w fun e w' => e = .returned (.int .i64 (s.2.length : Nat)) ∧ w = w' := by
  obtain ⟨X, h1, -⟩ := h
  exact markX w X b g s.1 s.2 h1
theorem back_same {W w : World} {b : Nat} {g : Geo} {D : Nat → Deed} {s : Nw × List Nw} {q M : Nat} {v : Value} {n : Nat} {xs : List Value} (h : Beside W w b g (runs g D s q) v n xs) (hM : M = s.2.length) :
    Calls Try.prog 15 #[.pointer (some ⟨b, 0, none⟩), .int .i64 (M : Nat)] w fun e w' => e = .returned (.int .i64 0) ∧ Beside W w' b g s v n xs := by
  have := back_beside (M : Nat) h
  rw [hM, back_runs] at this
  rw [hM]
  exact this
theorem Beside.drew {W w : World} {b : Nat} {g : Geo} {s : Nw × List Nw} {v : Value} {n : Nat} {xs : List Value} (h : Beside W w b g s v n xs) : Beside W w.drew b g s v n xs := h.go (below_drewN (Below.refl _ w) 1)
set_option maxRecDepth 100000 in
set_option maxHeartbeats 8000000 in
theorem back4 (g : Geo) (f : Nat → Int) (A1 : Option Addr) (n1 c1 : Nat) (A2 : Option Addr) (n2 c2 : Nat) (D : Nat → Deed) (A3 : Option Addr) (n3 c3 : Nat) (D2 : Nat → Deed) (W : World) (hn1 : n1 ≤ 140737488351232) (hn2 : n2 ≤ 140737488351232) (hn3 : n3 ≤ 140737488351232)
    (ha : Arr W W.heap.size A1 n1 fun j => .int .i64 (f j)) (hd : DdsAt W A2 n2 D) (hd2 : DdsAt W A3 n3 D2) : Calls Try.prog 4 #[gv g, .slice A1 n1 c1, .slice A2 n2 c2, .slice A3 n3 c3] W fun e W' => e = .returned (.bool true) ∧ Below W.heap.size W W' := by
  have HA := Lib.hid ha
  have HD := Lib.hid hd
  have HD2 := Lib.hid hd2
  have hB := Lib.hid ((Below.refl _ W).alloc (Nat.le_refl W.heap.size) (.cells (gcs g) 23))
  have K0 := Lib.hid (heap_new W (.cells (gcs g) 23))
  clear ha hd hd2
  go_enter Try.func4, Try.ntmps4
  go_wp2_with fail
  refine (awake7 _).mono ?_
  rintro e w1 ⟨rfl, hb1⟩
  have B1 := Lib.hid (hB.out.trans (hb1.mono hB.out.size))
  have K1 := Lib.hid ((hb1.block W.heap.size (heap_lt K0.out)).trans K0.out)
  clear hb1 K0 hB
  go_upto_region 3 with fail
  obtain ⟨ok, hok⟩ : ∃ ok, ok = (lightB D n2 && lightB D2 n3 && decide (n1 ≤ 300) && decide (g.S ≤ 60)) := ⟨_, rfl⟩
  have HOK := Lib.hid hok
  go_cut [40] from 23 to 40 (fun s40 w' => s40 = .bool (!ok) ∧ w' = w1)
  case first =>
    obtain ⟨e0, e1, e2, e3, e4⟩ := geo_at K1.out
    cases q1 : lightB D n2
    · rw [q1, Bool.false_and, Bool.false_and, Bool.false_and] at hok
      subst hok
      go_wp2_with fail
      refine (light8 D A2 n2 c2 _ _ hn2 (HD.out.row.below B1.out (Nat.le_refl _)) (fun i hi => (HD.out.lies i hi).le)).mono ?_
      rintro e _ ⟨rfl, rfl⟩
      rw [q1]
      go_wp2_with fail
      go_meet
      exact ⟨rfl, rfl⟩
    cases q2 : lightB D2 n3
    · rw [q1, q2, Bool.and_false, Bool.false_and, Bool.false_and] at hok
      subst hok
      go_wp2_with fail
      refine (light8 D A2 n2 c2 _ _ hn2 (HD.out.row.below B1.out (Nat.le_refl _)) (fun i hi => (HD.out.lies i hi).le)).mono ?_
      rintro e _ ⟨rfl, rfl⟩
      rw [q1]
      go_wp2_with fail
      refine (light8 D2 A3 n3 c3 _ _ hn3 (HD2.out.row.below B1.out (Nat.le_refl _)) (fun i hi => (HD2.out.lies i hi).le)).mono ?_
      rintro e _ ⟨rfl, rfl⟩
      rw [q2]
      go_wp2_with fail
      go_meet
      exact ⟨rfl, rfl⟩
    by_cases q3 : n1 ≤ 300
    · by_cases q4 : g.S ≤ 60
      · have t3 : decide ((300 : Int) < n1) = false := by simp; omega
        have t4 : decide ((60 : Int) < g.S) = false := by simp; omega
        simp only [q1, q2, q3, q4, decide_true, Bool.and_true] at hok
        subst hok
        clear q3 q4
        go_wp2_with fail
        refine (light8 D A2 n2 c2 _ _ hn2 (HD.out.row.below B1.out (Nat.le_refl _)) (fun i hi => (HD.out.lies i hi).le)).mono ?_
        rintro e _ ⟨rfl, rfl⟩
        rw [q1]
        go_wp2_with fail
        refine (light8 D2 A3 n3 c3 _ _ hn3 (HD2.out.row.below B1.out (Nat.le_refl _)) (fun i hi => (HD2.out.lies i hi).le)).mono ?_
        rintro e _ ⟨rfl, rfl⟩
        rw [q2]
        go_wp2_with fail
        go_meet
        exact ⟨rfl, rfl⟩
      · have t3 : decide ((300 : Int) < n1) = false := by simp; omega
        have t4 : decide ((60 : Int) < g.S) = true := by simp; omega
        simp only [q4, decide_false, Bool.and_false] at hok
        subst hok
        clear q3 q4
        go_wp2_with fail
        refine (light8 D A2 n2 c2 _ _ hn2 (HD.out.row.below B1.out (Nat.le_refl _)) (fun i hi => (HD.out.lies i hi).le)).mono ?_
        rintro e _ ⟨rfl, rfl⟩
        rw [q1]
        go_wp2_with fail
        refine (light8 D2 A3 n3 c3 _ _ hn3 (HD2.out.row.below B1.out (Nat.le_refl _)) (fun i hi => (HD2.out.lies i hi).le)).mono ?_
        rintro e _ ⟨rfl, rfl⟩
        rw [q2]
        go_wp2_with fail
        go_meet
        exact ⟨rfl, rfl⟩
    · have t3 : decide ((300 : Int) < n1) = true := by simp; omega
      simp only [q3, decide_false, Bool.and_false, Bool.false_and] at hok
      subst hok
      clear q3
      go_wp2_with fail
      refine (light8 D A2 n2 c2 _ _ hn2 (HD.out.row.below B1.out (Nat.le_refl _)) (fun i hi => (HD.out.lies i hi).le)).mono ?_
      rintro e _ ⟨rfl, rfl⟩
      rw [q1]
      go_wp2_with fail
      refine (light8 D2 A3 n3 c3 _ _ hn3 (HD2.out.row.below B1.out (Nat.le_refl _)) (fun i hi => (HD2.out.lies i hi).le)).mono ?_
      rintro e _ ⟨rfl, rfl⟩
      rw [q2]
      go_wp2_with fail
      go_meet
      exact ⟨rfl, rfl⟩
  case rest =>
    obtain ⟨rfl, rfl⟩ := hcut
    clear hok
    cases ok
    · go_wp2_with fail
      go_ret
      exact ⟨rfl, B1.out⟩
    have HOK2 : Hid (n2 ≤ 100 ∧ n3 ≤ 100 ∧ n1 ≤ 300) := Lib.hid (by
      have := HOK.out
      simp only [lightB, eq_comm (a := true), Bool.and_eq_true, decide_eq_true_eq] at this
      omega)
    obtain ⟨e0, e1, e2, e3, e4⟩ := geo_at K1.out
    have HA1 := Lib.hid ((HA.out.below B1.out (Nat.le_refl _)).more B1.out.size)
    cases hnew : newB g f n1
    · have HNEW := Lib.hid hnew
      clear hnew
      go_wp2_with fail
      refine (new9f g f A1 n1 c1 wc hn1 HA1.out HNEW.out).mono ?_
      rintro e w2 ⟨rfl, hb2⟩
      have B2 := Lib.hid (B1.out.trans (hb2.mono B1.out.size))
      clear hb2
      go_wp2_with fail
      go_ret
      exact ⟨rfl, B2.out⟩
    have HNEW := Lib.hid hnew
    clear hnew
    go_wp2_with fail
    refine (newX g f A1 n1 c1 wc HA1.out HNEW.out).mono ?_
    rintro e w2 ⟨b, rfl, hs2, hb2⟩
    have S2 : Hid (Beside W w2 b g (⟨freesL f (-1) n1, -1, 0⟩, []) (.slice none 0 0) 0 []) := Lib.hid ⟨_, hs2, fun k hk => Nat.le_trans B1.out.size hk, by simp [Value.ownBlock], ⟨rfl, .inl ⟨rfl, rfl⟩⟩, B1.out.trans (hb2.mono B1.out.size)⟩
    clear hs2 hb2 e0 e1 e2 e3 e4
    obtain ⟨s0, hs0⟩ : ∃ s0 : Nw × List Nw, s0 = (⟨freesL f (-1) n1, -1, 0⟩, []) := ⟨_, rfl⟩
    rw [← hs0] at S2
    have hs0l : s0.2.length = 0 := by rw [hs0]; rfl
    have HS0 := Lib.hid hs0l
    clear hs0 hs0l B1 K1
    go_wp2_with fail
    go_loopw [10] (fun i wr => ∃ k : Nat, k ≤ n2 ∧ i = .int .i64 k ∧ Beside W wr b g (runs g D s0 k) (.slice none 0 0) 0 []) (fun i _ => n2 - (intOf i).toNat)
    case atStart => exact ⟨0, Nat.zero_le _, rfl, S2.out⟩
    case round =>
      clear S2
      obtain ⟨k, hk, rfl, hsp⟩ := hrel
      have SP := Lib.hid hsp
      clear hsp
      by_cases hlt : k < n2
      · obtain ⟨b2, off, rfl, hb2l, hc⟩ := HD.out.row (by omega)
        obtain ⟨-, d1, d2, -⟩ := hc k hlt
        have hbw := SP.out.choose_spec.2.2.2.2
        have d1 := (hbw.cell (p := ⟨b2, off + k * 4 + 1, none⟩) hb2l).trans d1
        have d2 := (hbw.cell (p := ⟨b2, off + k * 4 + 2, none⟩) hb2l).trans d2
        obtain ⟨x, hx⟩ : ∃ x, x = (D k).num := ⟨_, rfl⟩
        obtain ⟨y, hy⟩ : ∃ y, y = (D k).deep := ⟨_, rfl⟩
        rw [← hx] at d1
        rw [← hy] at d2
        have HXY := Lib.hid (And.intro hx hy)
        have HDC : Hid (∀ w', Below W.heap.size W w' → w'.cell? ⟨b2, off + k * 4 + 1, none⟩ = some (.int .i64 x) ∧ w'.cell? ⟨b2, off + k * 4 + 2, none⟩ = some (.bool y)) := Lib.hid fun w' hw' => by
          obtain ⟨-, q1, q2, -⟩ := hc k hlt
          rw [hx, hy]
          exact ⟨(hw'.cell (p := ⟨b2, off + k * 4 + 1, none⟩) hb2l).trans q1, (hw'.cell (p := ⟨b2, off + k * 4 + 2, none⟩) hb2l).trans q2⟩
        have hlen := runs_len g D s0 k
        have hk2 := HOK2.out.1
        have HL := Lib.hid (show (runs g D s0 k).2.length ≤ 100000 by have := HS0.out; omega)
        have j0 : (0 : Int) ≤ k := by omega
        clear hc hx hy hbw hlen hk2
        go_wp2_with fail
        go_region_held3 (fun w' => w'.cell? ⟨b2, off + k * 4 + 1, none⟩ = some (.int .i64 x) ∧ w'.cell? ⟨b2, off + k * 4 + 2, none⟩ = some (.bool y)) (go_keep)
          (first | (go_at_call 11; refine (take_beside x y SP.out.drew HL.out).mono ?_; rintro e w4 ⟨rfl, h4⟩; obtain ⟨d3, d4⟩ := HDC.out w4 (h4.below)))
        have S4 : Hid (Beside W w4 b g (runs g D s0 (k + 1)) (.slice none 0 0) 0 []) := Lib.hid (by rw [runs, ← HXY.out.1, ← HXY.out.2]; exact h4)
        clear h4 d1 d2 d3 d4
        go_wp2_with fail
        go_roundw
        case rel => exact ⟨k + 1, by omega, by go_num, S4.out⟩
        case measure => simp [intOf]; omega
      · obtain rfl : k = n2 := by omega
        obtain ⟨s1, hs1⟩ : ∃ s1, s1 = runs g D s0 k := ⟨_, rfl⟩
        rw [← hs1] at SP
        have hl1 := runs_len g D s0 k
        rw [← hs1] at hl1
        have HL1 := Lib.hid (show s1.2.length ≤ 100 by have := HS0.out; have := HOK2.out.1; omega)
        clear hs1 hl1
        go_wp2_with fail
        refine (mark_beside SP.out).mono ?_
        rintro e _ ⟨rfl, rfl⟩
        obtain ⟨M, hM⟩ : ∃ M, M = s1.2.length := ⟨_, rfl⟩
        rw [← hM]
        have HM := Lib.hid hM
        clear hM
        go_wp2_with fail
        refine (free_beside SP.out).mono ?_
        rintro e w3 ⟨rfl, h3⟩
        obtain ⟨F, hF⟩ : ∃ F, F = s1.1.fr.count true := ⟨_, rfl⟩
        rw [← hF]
        have HF := Lib.hid hF
        have S3 := Lib.hid h3
        clear hF h3 SP
        go_wp2_with fail
        refine (open_beside S3.out).mono ?_
        rintro e _ ⟨rfl, rfl⟩
        obtain ⟨O, hO⟩ : ∃ O, O = s1.1.op := ⟨_, rfl⟩
        rw [← hO]
        have HO := Lib.hid hO
        clear hO
        obtain ⟨i0, hi, hz0, hz1, hz2⟩ := infoParts info3
        have HI := Lib.hid (And.intro hi (And.intro hz0 (And.intro hz1 hz2)))
        clear hi hz0 hz1 hz2
        go_wp2_with fail
        go_loopw [14, 15] (fun v i wr => ∃ k : Nat, k ≤ n3 ∧ i = .int .i64 k ∧ Beside W wr b g (runs g D2 s1 k) v (2 * k) (tellL g D2 s1 k)) (fun _ i _ => n3 - (intOf i).toNat)
        case atStart => exact ⟨0, Nat.zero_le _, rfl, S3.out⟩
        case round =>
          clear S3
          obtain ⟨q, hq, rfl, hsp⟩ := hrel
          have SP := Lib.hid hsp
          clear hsp
          by_cases hlq : q < n3
          · obtain ⟨b2, off, rfl, hb2l, hc⟩ := HD2.out.row (by omega)
            obtain ⟨-, d1, d2, -⟩ := hc q hlq
            have hbw := SP.out.choose_spec.2.2.2.2
            have d1 := (hbw.cell (p := ⟨b2, off + q * 4 + 1, none⟩) hb2l).trans d1
            have d2 := (hbw.cell (p := ⟨b2, off + q * 4 + 2, none⟩) hb2l).trans d2
            obtain ⟨x, hx⟩ : ∃ x, x = (D2 q).num := ⟨_, rfl⟩
            obtain ⟨y, hy⟩ : ∃ y, y = (D2 q).deep := ⟨_, rfl⟩
            rw [← hx] at d1
            rw [← hy] at d2
            have HXY := Lib.hid (And.intro hx hy)
            have HDC : Hid (∀ w', Below W.heap.size W w' → w'.cell? ⟨b2, off + q * 4 + 1, none⟩ = some (.int .i64 x) ∧ w'.cell? ⟨b2, off + q * 4 + 2, none⟩ = some (.bool y)) := Lib.hid fun w' hw' => by
              obtain ⟨-, q1, q2, -⟩ := hc q hlq
              rw [hx, hy]
              exact ⟨(hw'.cell (p := ⟨b2, off + q * 4 + 1, none⟩) hb2l).trans q1, (hw'.cell (p := ⟨b2, off + q * 4 + 2, none⟩) hb2l).trans q2⟩
            have hlen := runs_len g D2 s1 q
            have hk2 := HOK2.out.2.1
            have HL := Lib.hid (show (runs g D2 s1 q).2.length ≤ 100000 by have := HL1.out; omega)
            have j0 : (0 : Int) ≤ q := by omega
            clear hc hx hy hbw hlen hk2
            go_wp2_with fail
            go_region_held3 (fun w' => w'.cell? ⟨b2, off + q * 4 + 1, none⟩ = some (.int .i64 x) ∧ w'.cell? ⟨b2, off + q * 4 + 2, none⟩ = some (.bool y)) (go_keep)
              (first | (go_at_call 11; refine (take_beside x y SP.out.drew HL.out).mono ?_; rintro e w4 ⟨rfl, h4⟩; obtain ⟨d3, d4⟩ := HDC.out w4 (h4.below)))
            have S4 : Hid (Beside W w4 b g (runs g D2 s1 (q + 1)) u14 (2 * q) (tellL g D2 s1 q)) := Lib.hid (by rw [runs, ← HXY.out.1, ← HXY.out.2]; exact h4)
            clear h4 d1 d2 d3 d4
            have hat : takeR g (runs g D2 s1 q).1 (runs g D2 s1 q).2 x y = resR g D2 s1 q := by rw [resR, HXY.out.1, HXY.out.2]
            rw [hat]
            obtain ⟨at_, hat_⟩ : ∃ a, a = (resR g D2 s1 q).at_ := ⟨_, rfl⟩
            obtain ⟨er_, her_⟩ : ∃ a, a = (resR g D2 s1 q).err := ⟨_, rfl⟩
            rw [← hat_, ← her_]
            have HR := Lib.hid (And.intro hat_ her_)
            clear hat hat_ her_
            have hqb : q < 100 := by have := HOK2.out.2.1; omega
            go_wp2_with (at_builtin; refine wpList_append_lies _ rfl (.tmp 91) (.tmp 94) 24 rfl W.heap.size 3 i0 (.int .i64 0) 1 8 Try.underlying24 HI.out.1 HI.out.2.1 HI.out.2.2.1 HI.out.2.2.2 rfl (by omega) u14 (2 * q) _ rfl (S4.out.own.alloc _) ⟨w4.heap.size, 0, none⟩ 2 2 [.int .i64 at_, .int .i64 er_] rfl rfl (World.news_of_block (heap_new w4 _)) (by simp [Value.oneCell']) (by omega) (by unfold maxLen; omega) (by omega) (by have := S4.out.base; simp; omega) _ rfl ?_; intro g2 cap w5 hown hgr hat2 hlt2)
            have S5 := Lib.hid (beside_append S4.out hown hgr hat2)
            clear hown hgr hat2 hlt2
            go_roundw
            case rel => exact ⟨q + 1, by omega, by go_num, by rw [tellL, ← HR.out.1, ← HR.out.2]; exact S5.out⟩
            case measure => simp [intOf]; omega
          · obtain rfl : n3 = q := by omega
            go_wp2_with fail
            refine (back_same SP.out HM.out).mono ?_
            rintro e w5 ⟨rfl, h5⟩
            have S5 := Lib.hid h5
            clear h5 SP
            go_wp2_with fail
            refine (mark_beside S5.out).mono ?_
            rintro e _ ⟨rfl, rfl⟩
            rw [← HM.out]
            go_wp2_with fail
            refine (free_beside S5.out).mono ?_
            rintro e w6 ⟨rfl, h6⟩
            rw [← HF.out]
            have S6 := Lib.hid h6
            clear h6 S5
            go_wp2_with fail
            refine (open_beside S6.out).mono ?_
            rintro e _ ⟨rfl, rfl⟩
            rw [← HO.out]
            go_wp2_with fail
            go_loopw [18] (fun i wr => ∃ k : Nat, k ≤ n3 ∧ i = .int .i64 k ∧ Beside W wr b g (runs g D2 s1 k) u14 (2 * n3) (tellL g D2 s1 n3)) (fun i _ => n3 - (intOf i).toNat)
            case atStart => exact ⟨0, Nat.zero_le _, rfl, S6.out⟩
            case round =>
              clear S6
              obtain ⟨q, hq, rfl, hsp⟩ := hrel
              have SP := Lib.hid hsp
              clear hsp
              by_cases hlq : q < n3
              · obtain ⟨b2, off, rfl, hb2l, hc⟩ := HD2.out.row (by omega)
                obtain ⟨-, d1, d2, -⟩ := hc q hlq
                have hbw := SP.out.choose_spec.2.2.2.2
                have d1 := (hbw.cell (p := ⟨b2, off + q * 4 + 1, none⟩) hb2l).trans d1
                have d2 := (hbw.cell (p := ⟨b2, off + q * 4 + 2, none⟩) hb2l).trans d2
                obtain ⟨x, hx⟩ : ∃ x, x = (D2 q).num := ⟨_, rfl⟩
                obtain ⟨y, hy⟩ : ∃ y, y = (D2 q).deep := ⟨_, rfl⟩
                rw [← hx] at d1
                rw [← hy] at d2
                have HXY := Lib.hid (And.intro hx hy)
                have HDC : Hid (∀ w', Below W.heap.size W w' → w'.cell? ⟨b2, off + q * 4 + 1, none⟩ = some (.int .i64 x) ∧ w'.cell? ⟨b2, off + q * 4 + 2, none⟩ = some (.bool y)) := Lib.hid fun w' hw' => by
                  obtain ⟨-, q1, q2, -⟩ := hc q hlq
                  rw [hx, hy]
                  exact ⟨(hw'.cell (p := ⟨b2, off + q * 4 + 1, none⟩) hb2l).trans q1, (hw'.cell (p := ⟨b2, off + q * 4 + 2, none⟩) hb2l).trans q2⟩
                have hlen := runs_len g D2 s1 q
                have hk2 := HOK2.out.2.1
                have HL := Lib.hid (show (runs g D2 s1 q).2.length ≤ 100000 by have := HL1.out; omega)
                have j0 : (0 : Int) ≤ q := by omega
                clear hc hx hy hbw hlen hk2
                go_wp2_with fail
                go_region_held3 (fun w' => w'.cell? ⟨b2, off + q * 4 + 1, none⟩ = some (.int .i64 x) ∧ w'.cell? ⟨b2, off + q * 4 + 2, none⟩ = some (.bool y)) (go_keep)
                  (first | (go_at_call 11; refine (take_beside x y SP.out.drew HL.out).mono ?_; rintro e w4 ⟨rfl, h4⟩; obtain ⟨d3, d4⟩ := HDC.out w4 (h4.below)))
                have S4 : Hid (Beside W w4 b g (runs g D2 s1 (q + 1)) u14 (2 * n3) (tellL g D2 s1 n3)) := Lib.hid (by rw [runs, ← HXY.out.1, ← HXY.out.2]; exact h4)
                clear h4 d1 d2 d3 d4
                have hat : takeR g (runs g D2 s1 q).1 (runs g D2 s1 q).2 x y = resR g D2 s1 q := by rw [resR, HXY.out.1, HXY.out.2]
                rw [hat]
                obtain ⟨r1, r2⟩ := tellL_at g D2 s1 n3 q hlq
                obtain ⟨at_, hat_⟩ : ∃ a, a = (resR g D2 s1 q).at_ := ⟨_, rfl⟩
                obtain ⟨er_, her_⟩ : ∃ a, a = (resR g D2 s1 q).err := ⟨_, rfl⟩
                rw [← hat_] at r1 ⊢
                rw [← her_] at r2 ⊢
                obtain ⟨g2, cap, hu⟩ : ∃ g2 cap, u14 = .slice (some ⟨g2, 0, none⟩) (2 * n3) cap := by
                  rcases S4.out.own.2 with ⟨_, h0⟩ | ⟨g2, cap, _, h0, _⟩
                  · omega
                  · exact ⟨g2, cap, h0⟩
                subst hu
                have y1 := (World.ownsRow.cellAt S4.out.own (2 * q) (by omega)).trans r1
                have y2 := (World.ownsRow.cellAt S4.out.own (2 * q + 1) (by omega)).trans r2
                have hqb : q < 100 := by have := HOK2.out.2.1; omega
                have hnb : n3 ≤ 100 := HOK2.out.2.1
                clear hat hat_ her_ r1 r2
                go_wp2_with fail
                go_roundw
                case rel => exact ⟨q + 1, by omega, by go_num, S4.out⟩
                case measure => simp [intOf]; omega
              · obtain rfl : n3 = q := by omega
                go_wp2_with fail
                go_ret
                exact ⟨rfl, SP.out.below⟩
end Go.Proofs.Ytgoblbmekhcekaa
