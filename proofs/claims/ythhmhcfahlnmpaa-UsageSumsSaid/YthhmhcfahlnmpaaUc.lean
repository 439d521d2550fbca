/- Layer 18 (usage): slices.Clone and slices.SortFunc at places, by the shelf's contracts. -/
import Derived.Test.YthhmhcfahlnmpaaPp
import Derived.Test.YthhmhcfahlnmpaaSrt
import Derived.Test.YthhmhcfahlnmpaaFs
import Derived.Test.YthhmhcfahlnmpaaSp
import Derived.Test.YthhmhcfahlnmpaaKm
namespace Go.Proofs.Ythhmhcfahlnmpaa
open Go.RowKit Go.Sort
theorem infoP : (Try.prog.info? 42).map (fun i => (i.zero, i.size, i.bytes)) = some (some (.agg #[.int .i64 0, .int .i64 0, .int .i64 0, .int .i64 0]), 4, 32) := by kernel_rfl
theorem wideP (L : Nat → Pl) : Wide 4 (fun i => encP (L i)) := fun _ => rfl
theorem oneP (L : Nat → Pl) (n : Nat) : ∀ u ∈ flatS (fun i => encP (L i)) n, u.oneCell' = true := flatS_one fun _ _ u hu => encP_one _ u hu
theorem clone26 (L : Nat → Pl) (A : Option Addr) (n c : Nat) (w : World) (hn : n ≤ 1099511627776) (ha : SArr w w.heap.size A n 4 (fun i => encP (L i))) (hA : A = none → n = 0 ∧ c = 0) (hA2 : ∀ a, A = some a → a.spot = none) :
    Calls Try.prog 26 #[.slice A n c] w fun e w' => ∃ v, e = .returned v ∧ w'.ownsRow w.heap.size 42 4 v n (flatS (fun i => encP (L i)) n) ∧ Below w.heap.size w w' := by
  cases A with
  | none =>
    obtain ⟨rfl, rfl⟩ := hA rfl
    have h := AnyE.slices_Clone_nil clonePl 0 0 w
    exact h.mono fun e w' ⟨he, hw⟩ => ⟨.slice none 0 0, he, hw ▸ World.ownsRow_nil _ _ _ _, hw ▸ Below.refl _ _⟩
  | some ad =>
    obtain ⟨b, off, sp⟩ := ad
    obtain rfl : sp = none := hA2 _ rfl
    obtain ⟨i0, hi, hz0, hz1, hz2⟩ := infoParts infoP
    have h := AnyE.slices_Clone clonePl i0 (.agg #[.int .i64 0, .int .i64 0, .int .i64 0, .int .i64 0]) 4 32 hi hz0 hz1 hz2 rfl (by decide) Try.sizeOf42 b off n c (flatS (fun i => encP (L i)) n) w (flatS_len (wideP L) n) (by unfold maxLen; omega) (by omega)
      (fun j u hj => by
        have := ha.cellsAt (wideP L) ⟨b, off, none⟩ rfl j u hj
        have e : (⟨b, off, none⟩ : Addr).add j = ⟨b, off + j, none⟩ := by unfold Addr.add; split <;> simp_all
        rwa [e] at this) (oneP L n)
    exact h.mono fun e w' ⟨v, he, ho, _, hb⟩ => ⟨v, he, ho, hb⟩
theorem closure28 (x y : Pl) (W : World) : Calls Try.prog 28 #[.agg (encP x).toArray, .agg (encP y).toArray] W fun e w' => e = .returned (.int .i64 (Lib.compareInt x.a y.a)) ∧ ∃ q os', w' = grow (W.drewN q) os' := by
  have hcon := fun W' => AnyG.cmp_Compare_int cmpInt x.a y.a W'
  change ∀ W', Calls Try.prog 29 _ _ _ at hcon
  generalize Lib.compareInt x.a y.a = r at hcon ⊢
  show Calls Try.prog 28 #[.agg #[.int .i64 x.a, .int .i64 x.n, .int .i64 x.u, .int .i64 x.r], .agg #[.int .i64 y.a, .int .i64 y.n, .int .i64 y.u, .int .i64 y.r]] W _
  go_enter Try.func28, Try.ntmps28
  go_wp2_with (go_at_call 29; refine (hcon _).mono ?_; rintro e w' ⟨rfl, rfl⟩)
  go_ret
  exact ⟨rfl, 0, _, by rw [alloc_eq_grow, alloc_eq_grow, grow_grow]; rfl⟩
theorem ltA (x y : Pl) : ltOf (fun x y : Pl => Lib.compareInt x.a y.a) x y = decide (x.a < y.a) := by
  unfold ltOf Lib.compareInt
  by_cases h1 : x.a < y.a
  · simp [h1]
  · by_cases h2 : y.a < x.a <;> simp [h1, h2]
theorem swoA : SWO (ltOf fun x y : Pl => Lib.compareInt x.a y.a) where
  irrefl x := by rw [ltA]; simp
  trans x y z h1 h2 := by rw [ltA] at *; simp at *; omega
  ntrans x y z h1 h2 := by rw [ltA] at *; simp at *; omega
theorem sort27 (L : Nat → Pl) (v : Value) (n base : Nat) (w : World) (hn : n ≤ 1099511627776) (ho : w.ownsRow base 42 4 v n (flatS (fun i => encP (L i)) n)) :
    Calls Try.prog 27 #[v, .func (.func 28) #[] #[]] w fun e w' => e = .returned (.tuple #[]) ∧ ∃ d : Array Pl, PermIn 0 n (rowOf L n) d ∧ (∀ i j, i < j → j < n → d[i]!.a ≤ d[j]!.a) ∧
      w'.ownsRow base 42 4 v n (flatS (fun i => encP d[i]!) n) ∧ Keeps (fun x => v.ownBlock = some x) w w' := by
  obtain ⟨A, c, rfl⟩ := row_shapeS ho
  by_cases h0 : n = 0
  · subst h0
    have h := AnyF.slices_SortFunc_none (P := Try.prog) (ρ := sortPl_ren) { sortPl with } A c (.func (.func 28) #[] #[]) w
    refine h.mono fun e w' ⟨he, hw⟩ => ⟨he, rowOf L 0, ⟨rfl, fun _ _ => rfl, List.Perm.refl _⟩, fun i j _ h => absurd h (by omega), hw ▸ ho, hw ▸ Keeps.refl _ _⟩
  · obtain ⟨g, rfl⟩ := row_someS ho (by have := row_le_capS ho; omega)
    have eg : ∀ args w, (callFunc 28 args).run Try.prog w = .ok (.enter 28 args) w := enters_of Try.func28 (by kernel_rfl) rfl
    have hd := rowOf_size L n
    have ho2 : w.ownsRow base 42 4 (.slice (some ⟨g, 0, none⟩) n c) n (flatS (fun i => encP (rowOf L n)[i]!) n) := by
      rw [flatS_congr (G := fun i => encP (L i)) fun j hj => by rw [rowOf_get L hj]]; exact ho
    have hH := holdsK_row (enc := encP) (d := rowOf L n) encP_len hd ho2
    have h := AnyQ.slices_SortFunc sortPl 4 Try.isAgg42 Try.sizeOf42 encP encP_len encP_one (fun x y : Pl => Lib.compareInt x.a y.a) swoA 28 #[] g 0 c (rowOf L n) w eg (fun _ _ _ _ x y => closure28 x y _) hH (row_lt ho (k := g) rfl).2 (by rw [hd]; omega)
    change Calls Try.prog 27 _ _ _ at h
    rw [hd] at h
    refine h.mono fun e w' ⟨he, d, m, os, hp, hs, hw⟩ => ⟨he, d, hp, fun i j hij hj => ?_, ?_⟩
    · have := hs i j (Nat.zero_le _) hij hj
      rw [ltA] at this
      simpa using this
    · have hr := sorted_row (m := m) (os := os) (d' := d) encP_len (by rw [hp.1, hd]) ho2
      rw [hw]
      exact ⟨hr.1, hr.2.mono fun x _ hx => by rw [hx]; rfl⟩
end Go.Proofs.Ythhmhcfahlnmpaa
