/- The given statements of layer 29 (victim): for every input the law returns true, and what lay before the call lies as it lay. No condition. -/
import Derived.Test.YtnebpcoegomoeaaLaw
import Derived.Test.YtnebpcoegomoeaaOpen
import Derived.Test.YtnebpcoegomoeaaP
import Derived.Test.YtnebpcoegomoeaaN
import Derived.Test.YtnebpcoegomoeaaQ
import Derived.Test.YtnebpcoegomoeaaRows
namespace Go.Proofs.Ytnebpcoegomoeaa
open Go.RowKit Go.ChangeShapes Go.WideShapes Go.ChangeAt
theorem own : ownKnob Try.prog.godebug = none := by kernel_rfl
theorem laidOut : laidOutB Try.prog = true := by kernel_rfl
theorem bounds64 {x : Int} (h : (Lit.int .i64 x).wf = true) : -9223372036854775808 ≤ x ∧ x ≤ 9223372036854775807 := by
  have hmin : IntKind.i64.min = -9223372036854775808 := rfl
  have hmax : IntKind.i64.max = 9223372036854775807 := rfl
  simp only [Lit.wf, Bool.and_eq_true, decide_eq_true_eq, hmin, hmax] at h
  omega
theorem cells3 : Try.prog.cellsOf 3 = 1 := by kernel_rfl
theorem bytes3 : Try.prog.bytesOf 3 = 8 := by kernel_rfl
theorem victimPicks_contract {H : Type} {enc : TypeId × Value → H} (W : World) (args : List Value) (ds : List (DataW H)) (p : List MemPlace)
    (hval : ∀ (j : Nat) t v, Try.f3.params.toList[j]? = some t → args[j]? = some v → ∃ base, Value.okWide Try.prog W .any base t v)
    (hA : DataW.TrodAll enc Try.prog W 0 (fun _ => true) true Try.f3.params.toList args ds p)
    (hsz : (DataW.weightsEach Try.prog Try.f3.params.toList ds).all (· ≤ reachBytes) = true) :
    Calls Try.prog 3 args.toArray W fun e W' => e = .returned (.bool true) ∧ Below W.heap.size W W' := by
  rw [Try.params3] at hA hval hsz
  obtain ⟨v0, vs0, d0, ds0, p0, q0, rfl, rfl, rfl, h0, r0⟩ := trodAll_cons hA
  obtain ⟨v1, vs1, d1, ds1, p1, q1, rfl, rfl, rfl, h1, r1⟩ := trodAll_cons r0
  obtain ⟨rfl, rfl, rfl⟩ := trodAll_nil r1
  obtain ⟨b0, o0⟩ := hval 0 22 v0 rfl rfl
  obtain ⟨b1, o1⟩ := hval 1 3 v1 rfl rfl
  obtain ⟨A, n, c, f, rfl, hnc0, hcm0, hby0, ha0, hn0, wf0⟩ := open_i64s Try.underlying22 Try.underlying3 cells3 o0 h0 (j := 0) rfl rfl hsz
  rw [bytes3] at hby0
  simp only [reachBytes] at hby0
  obtain ⟨x, rfl, rfl, rfl, w1⟩ := open_int Try.underlying3 o1 h1
  exact picks3 f x A n c W (by omega) ha0 hn0
set_option maxRecDepth 100000 in
theorem victimPicks_lifted (os : Os) (started : os.Started) (H : Type) (enc : TypeId × Value → H) :
    ReturnsInHanded {} Try.checked os 3 .any (Rows.victimPicksSpec.pre6 enc Try.prog Try.f3 Rows.victimPicksRow.domain false) (Rows.victimPicksSpec.post enc Try.prog Try.f3 false true false false) :=
  law_lifted (C := Try.checked) own started (by kernel_rfl) Try.func3
    (ChangeSpec.witness6 (enc := enc) (C := Try.checked) false ⟨#[], #[.slice none 0 0, .int .i64 0], []⟩ 8 (by kernel_rfl) (by kernel_rfl) (by kernel_rfl) (by kernel_rfl))
    laidOut (by kernel_rfl) rfl rfl Try.underlying4 (fun ds h => by match ds, h with | [_, _], _ => rfl) (fun W args ds p h1 h2 h3 => victimPicks_contract W args ds p h1 h2 h3)
theorem victimPicks_over : Rows.victimPicksRow.holds Try.pinned (OpenSpec.ofChange Rows.victimPicksSpec) :=
  OpenClaim.holds_of_wide 3 Try.f3 rfl rfl rfl rfl rfl rfl rfl ⟨rfl, rfl, rfl, rfl, rfl⟩ rfl rfl rfl rfl rfl (by kernel_rfl) Try.func3 (by kernel_rfl)
    (of_decide_eq_true (by kernel_rfl)) (by unfold Func.isWrapper; rw [if_neg (of_decide_eq_false (by kernel_rfl))]; exact ⟨rfl, rfl⟩)
    (fun os started H enc _ => victimPicks_lifted os started H enc)
/-- The statement VictimPicks. -/
theorem victimPicks_holds : Rows.VictimPicksSaid := victimPicks_over
#print axioms victimPicks_holds
theorem victimWorth_contract {H : Type} {enc : TypeId × Value → H} (W : World) (args : List Value) (ds : List (DataW H)) (p : List MemPlace)
    (hval : ∀ (j : Nat) t v, Try.f4.params.toList[j]? = some t → args[j]? = some v → ∃ base, Value.okWide Try.prog W .any base t v)
    (hA : DataW.TrodAll enc Try.prog W 0 (fun _ => true) true Try.f4.params.toList args ds p)
    (hsz : (DataW.weightsEach Try.prog Try.f4.params.toList ds).all (· ≤ reachBytes) = true) :
    Calls Try.prog 4 args.toArray W fun e W' => e = .returned (.bool true) ∧ Below W.heap.size W W' := by
  rw [Try.params4] at hA hval hsz
  obtain ⟨v0, vs0, d0, ds0, p0, q0, rfl, rfl, rfl, h0, r0⟩ := trodAll_cons hA
  obtain ⟨v1, vs1, d1, ds1, p1, q1, rfl, rfl, rfl, h1, r1⟩ := trodAll_cons r0
  obtain ⟨rfl, rfl, rfl⟩ := trodAll_nil r1
  obtain ⟨b0, o0⟩ := hval 0 3 v0 rfl rfl
  obtain ⟨b1, o1⟩ := hval 1 3 v1 rfl rfl
  obtain ⟨x, rfl, rfl, rfl, w0⟩ := open_int Try.underlying3 o0 h0
  obtain ⟨y, rfl, rfl, rfl, w1⟩ := open_int Try.underlying3 o1 h1
  exact worth4 x y W (bounds64 w1).2
set_option maxRecDepth 100000 in
theorem victimWorth_lifted (os : Os) (started : os.Started) (H : Type) (enc : TypeId × Value → H) :
    ReturnsInHanded {} Try.checked os 4 .any (Rows.victimWorthSpec.pre6 enc Try.prog Try.f4 Rows.victimWorthRow.domain false) (Rows.victimWorthSpec.post enc Try.prog Try.f4 false true false false) :=
  law_lifted (C := Try.checked) own started (by kernel_rfl) Try.func4
    (ChangeSpec.witness6 (enc := enc) (C := Try.checked) false ⟨#[], #[.int .i64 0, .int .i64 0], []⟩ 8 (by kernel_rfl) (by kernel_rfl) (by kernel_rfl) (by kernel_rfl))
    laidOut (by kernel_rfl) rfl rfl Try.underlying4 (fun ds h => by match ds, h with | [_, _], _ => rfl) (fun W args ds p h1 h2 h3 => victimWorth_contract W args ds p h1 h2 h3)
theorem victimWorth_over : Rows.victimWorthRow.holds Try.pinned (OpenSpec.ofChange Rows.victimWorthSpec) :=
  OpenClaim.holds_of_wide 4 Try.f4 rfl rfl rfl rfl rfl rfl rfl ⟨rfl, rfl, rfl, rfl, rfl⟩ rfl rfl rfl rfl rfl (by kernel_rfl) Try.func4 (by kernel_rfl)
    (of_decide_eq_true (by kernel_rfl)) (by unfold Func.isWrapper; rw [if_neg (of_decide_eq_false (by kernel_rfl))]; exact ⟨rfl, rfl⟩)
    (fun os started H enc _ => victimWorth_lifted os started H enc)
/-- The statement VictimWorth. -/
theorem victimWorth_holds : Rows.VictimWorthSaid := victimWorth_over
#print axioms victimWorth_holds
theorem victimNumbers_contract {H : Type} {enc : TypeId × Value → H} (W : World) (args : List Value) (ds : List (DataW H)) (p : List MemPlace)
    (hval : ∀ (j : Nat) t v, Try.f5.params.toList[j]? = some t → args[j]? = some v → ∃ base, Value.okWide Try.prog W .any base t v)
    (hA : DataW.TrodAll enc Try.prog W 0 (fun _ => true) true Try.f5.params.toList args ds p)
    (hsz : (DataW.weightsEach Try.prog Try.f5.params.toList ds).all (· ≤ reachBytes) = true) :
    Calls Try.prog 5 args.toArray W fun e W' => e = .returned (.bool true) ∧ Below W.heap.size W W' := by
  rw [Try.params5] at hA hval hsz
  obtain ⟨rfl, rfl, rfl⟩ := trodAll_nil hA
  exact numbers5 W
set_option maxRecDepth 100000 in
theorem victimNumbers_lifted (os : Os) (started : os.Started) (H : Type) (enc : TypeId × Value → H) :
    ReturnsInHanded {} Try.checked os 5 .any (Rows.victimNumbersSpec.pre6 enc Try.prog Try.f5 Rows.victimNumbersRow.domain false) (Rows.victimNumbersSpec.post enc Try.prog Try.f5 false true false false) :=
  law_lifted (C := Try.checked) own started (by kernel_rfl) Try.func5
    (ChangeSpec.witness6 (enc := enc) (C := Try.checked) false ⟨#[], #[], []⟩ 8 (by kernel_rfl) (by kernel_rfl) (by kernel_rfl) (by kernel_rfl))
    laidOut (by kernel_rfl) rfl rfl Try.underlying4 (fun ds h => by match ds, h with | [], _ => rfl) (fun W args ds p h1 h2 h3 => victimNumbers_contract W args ds p h1 h2 h3)
theorem victimNumbers_over : Rows.victimNumbersRow.holds Try.pinned (OpenSpec.ofChange Rows.victimNumbersSpec) :=
  OpenClaim.holds_of_wide 5 Try.f5 rfl rfl rfl rfl rfl rfl rfl ⟨rfl, rfl, rfl, rfl, rfl⟩ rfl rfl rfl rfl rfl (by kernel_rfl) Try.func5 (by kernel_rfl)
    (of_decide_eq_true (by kernel_rfl)) (by unfold Func.isWrapper; rw [if_neg (of_decide_eq_false (by kernel_rfl))]; exact ⟨rfl, rfl⟩)
    (fun os started H enc _ => victimNumbers_lifted os started H enc)
/-- The statement VictimNumbers. -/
theorem victimNumbers_holds : Rows.VictimNumbersSaid := victimNumbers_over
#print axioms victimNumbers_holds
theorem victimBest_contract {H : Type} {enc : TypeId × Value → H} (W : World) (args : List Value) (ds : List (DataW H)) (p : List MemPlace)
    (hval : ∀ (j : Nat) t v, Try.f6.params.toList[j]? = some t → args[j]? = some v → ∃ base, Value.okWide Try.prog W .any base t v)
    (hA : DataW.TrodAll enc Try.prog W 0 (fun _ => true) true Try.f6.params.toList args ds p)
    (hsz : (DataW.weightsEach Try.prog Try.f6.params.toList ds).all (· ≤ reachBytes) = true) :
    Calls Try.prog 6 args.toArray W fun e W' => e = .returned (.bool true) ∧ Below W.heap.size W W' := by
  rw [Try.params6] at hA hval hsz
  obtain ⟨v0, vs0, d0, ds0, p0, q0, rfl, rfl, rfl, h0, r0⟩ := trodAll_cons hA
  obtain ⟨v1, vs1, d1, ds1, p1, q1, rfl, rfl, rfl, h1, r1⟩ := trodAll_cons r0
  obtain ⟨v2, vs2, d2, ds2, p2, q2, rfl, rfl, rfl, h2, r2⟩ := trodAll_cons r1
  obtain ⟨rfl, rfl, rfl⟩ := trodAll_nil r2
  obtain ⟨b0, o0⟩ := hval 0 22 v0 rfl rfl
  obtain ⟨b1, o1⟩ := hval 1 3 v1 rfl rfl
  obtain ⟨b2, o2⟩ := hval 2 3 v2 rfl rfl
  obtain ⟨A, n, c, f, rfl, hnc0, hcm0, hby0, ha0, hn0, wf0⟩ := open_i64s Try.underlying22 Try.underlying3 cells3 o0 h0 (j := 0) rfl rfl hsz
  rw [bytes3] at hby0
  simp only [reachBytes] at hby0
  obtain ⟨x, rfl, rfl, rfl, w1⟩ := open_int Try.underlying3 o1 h1
  obtain ⟨y, rfl, rfl, rfl, w2⟩ := open_int Try.underlying3 o2 h2
  exact best6 f x y A n c W ha0
set_option maxRecDepth 100000 in
theorem victimBest_lifted (os : Os) (started : os.Started) (H : Type) (enc : TypeId × Value → H) :
    ReturnsInHanded {} Try.checked os 6 .any (Rows.victimBestSpec.pre6 enc Try.prog Try.f6 Rows.victimBestRow.domain false) (Rows.victimBestSpec.post enc Try.prog Try.f6 false true false false) :=
  law_lifted (C := Try.checked) own started (by kernel_rfl) Try.func6
    (ChangeSpec.witness6 (enc := enc) (C := Try.checked) false ⟨#[], #[.slice none 0 0, .int .i64 0, .int .i64 0], []⟩ 8 (by kernel_rfl) (by kernel_rfl) (by kernel_rfl) (by kernel_rfl))
    laidOut (by kernel_rfl) rfl rfl Try.underlying4 (fun ds h => by match ds, h with | [_, _, _], _ => rfl) (fun W args ds p h1 h2 h3 => victimBest_contract W args ds p h1 h2 h3)
theorem victimBest_over : Rows.victimBestRow.holds Try.pinned (OpenSpec.ofChange Rows.victimBestSpec) :=
  OpenClaim.holds_of_wide 6 Try.f6 rfl rfl rfl rfl rfl rfl rfl ⟨rfl, rfl, rfl, rfl, rfl⟩ rfl rfl rfl rfl rfl (by kernel_rfl) Try.func6 (by kernel_rfl)
    (of_decide_eq_true (by kernel_rfl)) (by unfold Func.isWrapper; rw [if_neg (of_decide_eq_false (by kernel_rfl))]; exact ⟨rfl, rfl⟩)
    (fun os started H enc _ => victimBest_lifted os started H enc)
/-- The statement VictimBest. -/
theorem victimBest_holds : Rows.VictimBestSaid := victimBest_over
#print axioms victimBest_holds
end Go.Proofs.Ytnebpcoegomoeaa
