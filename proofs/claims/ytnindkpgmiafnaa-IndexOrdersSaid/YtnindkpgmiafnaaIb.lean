/- Layer 22 (index): what an index is in memory; may a place be; is there an index. -/
import Derived.Test.YtnindkpgmiafnaaIa
import Derived.Test.YtnindkpgmiafnaaBkIt
import Derived.Test.YtnindkpgmiafnaaGm
import Derived.Test.YtnindkpgmiafnaaApp
namespace Go.Proofs.Ytnindkpgmiafnaa
open Go.RowKit Go.Maps Go.WideMaps
theorem follows : Try.prog.follows .mixedOrders = true := by kernel_rfl
theorem arrK : ArrKey Try.prog 26 5 32 := ⟨Try.underlying26, by kernel_rfl, by kernel_rfl, by kernel_rfl⟩
theorem types_pos : ∃ m, Try.prog.types.size = m + 1 := by
  refine ⟨Try.prog.types.size - 1, ?_⟩
  have : 0 < Try.prog.types.size := of_decide_eq_true (by kernel_rfl)
  omega
noncomputable def keyT : KeyT Try.prog 26 (List Int) := arrT arrK Try.underlying5 types_pos
theorem infoKey : (Try.prog.info? 26).map (·.size) = some 32 := by kernel_rfl
theorem infoPl : (Try.prog.info? 28).map (fun i => (i.zero, i.size, i.bytes)) = some (some (.agg #[.int .i64 0, .int .i64 0, .int .i64 0, .int .i64 0]), 4, 32) := by kernel_rfl
theorem sizePl : (Try.prog.info? 28).map (·.size) = some 4 := by kernel_rfl
theorem zeroVPl (u : World) : (zeroValue 28).run Try.prog u = .ok (.agg #[.int .i64 0, .int .i64 0, .int .i64 0, .int .i64 0]) u := by kernel_rfl
def zK : List Value := List.replicate 32 (.int .u8 0)
theorem zeroVK (u : World) : (zeroValue 26).run Try.prog u = .ok (.agg zK.toArray) u := by kernel_rfl
def plc (p : Pl) : List Value := [.int .i64 p.a, .int .i64 p.n, .int .i64 p.u, .int .i64 p.r]
abbrev plv (p : Pl) : Value := .agg #[.int .i64 p.a, .int .i64 p.n, .int .i64 p.u, .int .i64 p.r]
theorem wf_may {x : Int} (h : -9223372036854775808 ≤ x ∧ x ≤ 9223372036854775807) : (Lit.int .i64 x).wf = true := wf_i64 h
theorem wf1u : (Lit.int .u8 1).wf = true := by kernel_rfl
/-- An entry's item. -/
def itE (e : Ent) : ElIt := ⟨⟨1, e.k, e.p.a, e.p.n, e.p.u, e.p.r, 0, 0, List.replicate 32 0, 0, 0⟩, by
  have h := may_true.1 e.may
  exact ⟨wf1u, e.key, wf_may (by dsimp only; omega), wf_may (by dsimp only; omega), wf_may (by dsimp only; omega), wf_may (by dsimp only; omega), wf0, wf0, keyOk_zero 32, wf0, wf0⟩⟩
theorem itE_len (e : Ent) : (cellsIt (itE e)).length = 73 := lenIt _
theorem itE_one (e : Ent) : ∀ v ∈ cellsIt (itE e), v.oneCell' = true := oneIt _
/-- The row of entries as cells. -/
def rowE (R : List Ent) (n : Nat) : List Value := flatS (fun i => cellsIt (itE R[i]!)) n
theorem wideE (F : Nat → Ent) : Wide 73 fun i => cellsIt (itE (F i)) := fun _ => lenIt _
theorem onesE (F : Nat → Ent) (n : Nat) : ∀ u ∈ flatS (fun i => cellsIt (itE (F i))) n, u.oneCell' = true := flatS_one fun _ _ u hu => oneIt _ u hu
def valL (R : List Ent) (k : List Int) : Option Value := (lookR k R).map plv
/-- An index: a cell with a map, whose entries are R. -/
structure Ix (w : World) (p B : Nat) (R : List Ent) : Prop where
  cell : w.heap[p]? = some (.cells #[.map (some B)] 56 (0, 0))
  map : Gm Try.prog w keyT (fun _ => True) B R.length (valL R)
  rise : Rise R
theorem Ix.keeps {w w' : World} {p B : Nat} {R : List Ent} (h : Ix w p B R) (hk : ∀ x, x = p ∨ x = B → w'.heap[x]? = w.heap[x]?) : Ix w' p B R :=
  ⟨(hk p (.inl rfl)).trans h.cell, h.map.keeps (hk B (.inr rfl)), h.rise⟩
theorem Ix.lt {w : World} {p B : Nat} {R : List Ent} (h : Ix w p B R) : p < w.heap.size ∧ B < w.heap.size := ⟨heap_lt h.cell, h.map.lt⟩
theorem Ix.below {w w' : World} {p B : Nat} {R : List Ent} (h : Ix w p B R) (hb : Below w.heap.size w w') : Ix w' p B R :=
  h.keeps fun x hx => hb.block x (by rcases hx with rfl | rfl; exact h.lt.1; exact h.lt.2)
theorem Ix.drewN {w : World} {p B : Nat} {R : List Ent} (h : Ix w p B R) (n : Nat) : Ix (w.drewN n) p B R := h.keeps fun _ _ => rfl
theorem Ix.at0 {w : World} {p B : Nat} {R : List Ent} (h : Ix w p B R) : w.cell? ⟨p, 0, none⟩ = some (.map (some B)) := block_cell h.cell 0 _ rfl
theorem Ix.ne {w : World} {p B : Nat} {R : List Ent} (h : Ix w p B R) : p ≠ B := fun e => by
  obtain ⟨D, ⟨es, clock, hb, _⟩, _⟩ := h.map
  have := h.cell
  rw [e, hb] at this
  injection this with this
  cases this
theorem Ix.turn {w w' : World} {p B c : Nat} {R R' : List Ent} {L : List Int → Option Value} (h : Ix w p B R) (hg : w.grownBy w' (some B)) (hm : Gm Try.prog w' keyT (fun _ => True) B c L) (hc : c = R'.length) (hL : ∀ k, KeyOk 32 k → L k = valL R' k) (hr : Rise R') : Ix w' p B R' :=
  ⟨(hg.block p h.lt.1 (fun e => h.ne (by injection e))).trans h.cell, by subst hc; exact hm.congr hL, hr⟩
theorem from30 (n a b : Int) (w : World) : Calls Try.prog 30 #[.int .i64 n, .int .i64 a, .int .i64 b] w fun e w' => e = .returned (.bool (decide (a ≤ n ∧ n ≤ b))) ∧ w = w' := by
  by_cases h1 : a ≤ n
  · by_cases h2 : n ≤ b
    · go_enter Try.func30, Try.ntmps30
      go_wp2
      go_ret
      exact ⟨by simp [h1, h2], rfl⟩
    · have d2 : decide (n ≤ b) = false := by simpa using h2
      go_enter Try.func30, Try.ntmps30
      go_wp2
      go_ret
      exact ⟨by simp [h2], rfl⟩
  · have d1 : decide (a ≤ n) = false := by simpa using h1
    go_enter Try.func30, Try.ntmps30
    go_wp2
    go_ret
    exact ⟨by first | rfl | (rw [show decide (a ≤ n ∧ n ≤ b) = false from decide_eq_false (by omega)]; rfl), rfl⟩
theorem from30t (n a b : Int) (w : World) (h : a ≤ n ∧ n ≤ b) : Calls Try.prog 30 #[.int .i64 n, .int .i64 a, .int .i64 b] w fun e w' => e = .returned (.bool true) ∧ w = w' := by
  have := from30 n a b w
  rwa [decide_eq_true h] at this
theorem from30f (n a b : Int) (w : World) (h : ¬ (a ≤ n ∧ n ≤ b)) : Calls Try.prog 30 #[.int .i64 n, .int .i64 a, .int .i64 b] w fun e w' => e = .returned (.bool false) ∧ w = w' := by
  have := from30 n a b w
  rwa [decide_eq_false h] at this
theorem neqM (B : Nat) (w : World) : (binOp BinOp.neq 54 (.map (some B)) (.map none)).run Try.prog w = .ok (.bool true) w := by kernel_rfl
theorem neqZ (w : World) : (binOp BinOp.neq 54 (.map none) (.map none)).run Try.prog w = .ok (.bool false) w := by kernel_rfl
theorem there21 (p B : Nat) (w : World) (h : w.cell? ⟨p, 0, none⟩ = some (.map (some B))) : Calls Try.prog 21 #[.pointer (some ⟨p, 0, none⟩)] w fun e w' => e = .returned (.bool true) ∧ w = w' := by
  have N1 := neqM
  have N2 := neqZ
  go_enter Try.func21, Try.ntmps21
  go_wp2_with fail
  go_ret
  exact ⟨rfl, rfl⟩
theorem there21n (w : World) : Calls Try.prog 21 #[.pointer none] w fun e w' => e = .returned (.bool false) ∧ w = w' := by
  have N1 := neqM
  have N2 := neqZ
  go_enter Try.func21, Try.ntmps21
  go_wp2_with fail
  go_ret
  exact ⟨rfl, rfl⟩
theorem there21z (p : Nat) (w : World) (h : w.cell? ⟨p, 0, none⟩ = some (.map none)) : Calls Try.prog 21 #[.pointer (some ⟨p, 0, none⟩)] w fun e w' => e = .returned (.bool false) ∧ w = w' := by
  have N1 := neqM
  have N2 := neqZ
  go_enter Try.func21, Try.ntmps21
  go_wp2_with fail
  go_ret
  exact ⟨rfl, rfl⟩
theorem new8 (w : World) : Calls Try.prog 8 #[] w fun e w' => ∃ p B, e = .returned (.pointer (some ⟨p, 0, none⟩)) ∧ Ix w' p B [] ∧ Below w.heap.size w w' ∧ w.heap.size ≤ p ∧ w.heap.size ≤ B := by
  have HMM := @run_makeMap Try.prog
  go_enter Try.func8, Try.ntmps8
  go_wp2_with fail
  go_ret
  have hB := gm_made w keyT (fun _ => True)
  refine ⟨w.heap.size + 1, w.heap.size, rfl, ⟨heap_new_at _ (by simp), (hB.keeps (Below.heap_alloc _ _ _ (by simp))).congr fun k _ => rfl, List.Pairwise.nil⟩, ((Below.refl _ _).alloc (Nat.le_refl _) _).alloc (by simp) _, by omega, Nat.le_refl _⟩

theorem may22 (p : Pl) (w : World) : Calls Try.prog 22 #[plv p] w fun e w' => e = .returned (.bool (mayB p)) ∧ Below w.heap.size w w' := by
  have hB : Below w.heap.size w (w.alloc (.cells #[.int .i64 p.a, .int .i64 p.n, .int .i64 p.u, .int .i64 p.r] 28)) := (Below.refl _ w).alloc (Nat.le_refl _) _
  have HB := Lib.hid hB
  clear hB
  by_cases h0 : 0 ≤ p.a ∧ p.a ≤ 262144
  rotate_left
  · have HE : Hid (mayB p = false) := Lib.hid (by simp [mayB, h0])
    go_enter Try.func22, Try.ntmps22
    go_wp2_with fail
    refine (from30f p.a 0 262144 _ h0).mono ?_
    rintro e _ ⟨rfl, rfl⟩
    go_wp2_with fail
    go_ret
    exact ⟨by rw [HE.out]; rfl, HB.out⟩
  by_cases h1 : 1 ≤ p.n ∧ p.n ≤ 1024
  rotate_left
  · have HE : Hid (mayB p = false) := Lib.hid (by simp [mayB, h0, h1])
    go_enter Try.func22, Try.ntmps22
    go_wp2_with fail
    refine (from30t p.a 0 262144 _ h0).mono ?_
    rintro e _ ⟨rfl, rfl⟩
    go_wp2_with fail
    refine (from30f p.n 1 1024 _ h1).mono ?_
    rintro e _ ⟨rfl, rfl⟩
    go_wp2_with fail
    go_ret
    exact ⟨by rw [HE.out]; rfl, HB.out⟩
  by_cases h2 : 1 ≤ p.u ∧ p.u ≤ 16
  rotate_left
  · have HE : Hid (mayB p = false) := Lib.hid (by simp [mayB, h0, h1, h2])
    go_enter Try.func22, Try.ntmps22
    go_wp2_with fail
    refine (from30t p.a 0 262144 _ h0).mono ?_
    rintro e _ ⟨rfl, rfl⟩
    go_wp2_with fail
    refine (from30t p.n 1 1024 _ h1).mono ?_
    rintro e _ ⟨rfl, rfl⟩
    go_wp2_with fail
    refine (from30f p.u 1 16 _ h2).mono ?_
    rintro e _ ⟨rfl, rfl⟩
    go_wp2_with fail
    go_ret
    exact ⟨by rw [HE.out]; rfl, HB.out⟩
  by_cases h3 : 0 ≤ p.r ∧ p.r ≤ 2147483647
  rotate_left
  · have HE : Hid (mayB p = false) := Lib.hid (by simp [mayB, h0, h1, h2, h3])
    go_enter Try.func22, Try.ntmps22
    go_wp2_with fail
    refine (from30t p.a 0 262144 _ h0).mono ?_
    rintro e _ ⟨rfl, rfl⟩
    go_wp2_with fail
    refine (from30t p.n 1 1024 _ h1).mono ?_
    rintro e _ ⟨rfl, rfl⟩
    go_wp2_with fail
    refine (from30t p.u 1 16 _ h2).mono ?_
    rintro e _ ⟨rfl, rfl⟩
    go_wp2_with fail
    refine (from30f p.r 0 2147483647 _ h3).mono ?_
    rintro e _ ⟨rfl, rfl⟩
    go_wp2_with fail
    go_ret
    exact ⟨by rw [HE.out]; rfl, HB.out⟩
  have HE : Hid (mayB p = true) := Lib.hid (by simp [mayB, h0, h1, h2, h3])
  go_enter Try.func22, Try.ntmps22
  go_wp2_with fail
  refine (from30t p.a 0 262144 _ h0).mono ?_
  rintro e _ ⟨rfl, rfl⟩
  go_wp2_with fail
  refine (from30t p.n 1 1024 _ h1).mono ?_
  rintro e _ ⟨rfl, rfl⟩
  go_wp2_with fail
  refine (from30t p.u 1 16 _ h2).mono ?_
  rintro e _ ⟨rfl, rfl⟩
  go_wp2_with fail
  refine (from30t p.r 0 2147483647 _ h3).mono ?_
  rintro e _ ⟨rfl, rfl⟩
  go_wp2_with fail
  go_ret
  exact ⟨by rw [HE.out]; rfl, HB.out⟩
theorem may26 (p : Pl) (w : World) : Calls Try.prog 26 #[plv p] w fun e w' => e = .returned (.bool (mayB p)) ∧ Below w.heap.size w w' := by
  have hB : Below w.heap.size w (w.alloc (.cells #[.int .i64 p.a, .int .i64 p.n, .int .i64 p.u, .int .i64 p.r] 28)) := (Below.refl _ w).alloc (Nat.le_refl _) _
  have HB := Lib.hid hB
  clear hB
  by_cases h0 : 0 ≤ p.a
  rotate_left
  · have HE : Hid (mayB p = false) := Lib.hid (by simp [mayB, h0])
    have d0 : decide (0 ≤ p.a) = false := by simpa using h0
    go_enter Try.func26, Try.ntmps26
    go_wp2_with fail
    go_ret
    exact ⟨by rw [HE.out]; rfl, HB.out⟩
  by_cases h1 : p.a ≤ 262144
  rotate_left
  · have HE : Hid (mayB p = false) := Lib.hid (by simp [mayB, h0, h1])
    have d0 : decide (0 ≤ p.a) = true := by simpa using h0
    have d1 : decide (p.a ≤ 262144) = false := by simpa using h1
    go_enter Try.func26, Try.ntmps26
    go_wp2_with fail
    go_ret
    exact ⟨by rw [HE.out]; rfl, HB.out⟩
  by_cases h2 : 1 ≤ p.n
  rotate_left
  · have HE : Hid (mayB p = false) := Lib.hid (by simp [mayB, h0, h1, h2])
    have d0 : decide (0 ≤ p.a) = true := by simpa using h0
    have d1 : decide (p.a ≤ 262144) = true := by simpa using h1
    have d2 : decide (1 ≤ p.n) = false := by simpa using h2
    go_enter Try.func26, Try.ntmps26
    go_wp2_with fail
    go_ret
    exact ⟨by rw [HE.out]; rfl, HB.out⟩
  by_cases h3 : p.n ≤ 1024
  rotate_left
  · have HE : Hid (mayB p = false) := Lib.hid (by simp [mayB, h0, h1, h2, h3])
    have d0 : decide (0 ≤ p.a) = true := by simpa using h0
    have d1 : decide (p.a ≤ 262144) = true := by simpa using h1
    have d2 : decide (1 ≤ p.n) = true := by simpa using h2
    have d3 : decide (p.n ≤ 1024) = false := by simpa using h3
    go_enter Try.func26, Try.ntmps26
    go_wp2_with fail
    go_ret
    exact ⟨by rw [HE.out]; rfl, HB.out⟩
  by_cases h4 : 1 ≤ p.u
  rotate_left
  · have HE : Hid (mayB p = false) := Lib.hid (by simp [mayB, h0, h1, h2, h3, h4])
    have d0 : decide (0 ≤ p.a) = true := by simpa using h0
    have d1 : decide (p.a ≤ 262144) = true := by simpa using h1
    have d2 : decide (1 ≤ p.n) = true := by simpa using h2
    have d3 : decide (p.n ≤ 1024) = true := by simpa using h3
    have d4 : decide (1 ≤ p.u) = false := by simpa using h4
    go_enter Try.func26, Try.ntmps26
    go_wp2_with fail
    go_ret
    exact ⟨by rw [HE.out]; rfl, HB.out⟩
  by_cases h5 : p.u ≤ 16
  rotate_left
  · have HE : Hid (mayB p = false) := Lib.hid (by simp [mayB, h0, h1, h2, h3, h4, h5])
    have d0 : decide (0 ≤ p.a) = true := by simpa using h0
    have d1 : decide (p.a ≤ 262144) = true := by simpa using h1
    have d2 : decide (1 ≤ p.n) = true := by simpa using h2
    have d3 : decide (p.n ≤ 1024) = true := by simpa using h3
    have d4 : decide (1 ≤ p.u) = true := by simpa using h4
    have d5 : decide (p.u ≤ 16) = false := by simpa using h5
    go_enter Try.func26, Try.ntmps26
    go_wp2_with fail
    go_ret
    exact ⟨by rw [HE.out]; rfl, HB.out⟩
  by_cases h6 : 0 ≤ p.r
  rotate_left
  · have HE : Hid (mayB p = false) := Lib.hid (by simp [mayB, h0, h1, h2, h3, h4, h5, h6])
    have d0 : decide (0 ≤ p.a) = true := by simpa using h0
    have d1 : decide (p.a ≤ 262144) = true := by simpa using h1
    have d2 : decide (1 ≤ p.n) = true := by simpa using h2
    have d3 : decide (p.n ≤ 1024) = true := by simpa using h3
    have d4 : decide (1 ≤ p.u) = true := by simpa using h4
    have d5 : decide (p.u ≤ 16) = true := by simpa using h5
    have d6 : decide (0 ≤ p.r) = false := by simpa using h6
    go_enter Try.func26, Try.ntmps26
    go_wp2_with fail
    go_ret
    exact ⟨by rw [HE.out]; rfl, HB.out⟩
  by_cases h7 : p.r ≤ 2147483647
  rotate_left
  · have HE : Hid (mayB p = false) := Lib.hid (by simp [mayB, h0, h1, h2, h3, h4, h5, h6, h7])
    have d0 : decide (0 ≤ p.a) = true := by simpa using h0
    have d1 : decide (p.a ≤ 262144) = true := by simpa using h1
    have d2 : decide (1 ≤ p.n) = true := by simpa using h2
    have d3 : decide (p.n ≤ 1024) = true := by simpa using h3
    have d4 : decide (1 ≤ p.u) = true := by simpa using h4
    have d5 : decide (p.u ≤ 16) = true := by simpa using h5
    have d6 : decide (0 ≤ p.r) = true := by simpa using h6
    have d7 : decide (p.r ≤ 2147483647) = false := by simpa using h7
    go_enter Try.func26, Try.ntmps26
    go_wp2_with fail
    go_ret
    exact ⟨by rw [HE.out]; rfl, HB.out⟩
  have HE : Hid (mayB p = true) := Lib.hid (by simp [mayB, h0, h1, h2, h3, h4, h5, h6, h7])
  have d0 : decide (0 ≤ p.a) = true := by simpa using h0
  have d1 : decide (p.a ≤ 262144) = true := by simpa using h1
  have d2 : decide (1 ≤ p.n) = true := by simpa using h2
  have d3 : decide (p.n ≤ 1024) = true := by simpa using h3
  have d4 : decide (1 ≤ p.u) = true := by simpa using h4
  have d5 : decide (p.u ≤ 16) = true := by simpa using h5
  have d6 : decide (0 ≤ p.r) = true := by simpa using h6
  have d7 : decide (p.r ≤ 2147483647) = true := by simpa using h7
  go_enter Try.func26, Try.ntmps26
  go_wp2_with fail
  go_ret
  exact ⟨by rw [HE.out]; rfl, HB.out⟩
end Go.Proofs.Ytnindkpgmiafnaa
