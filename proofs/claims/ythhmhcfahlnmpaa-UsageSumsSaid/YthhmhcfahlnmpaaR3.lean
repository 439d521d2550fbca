/- The given statements of layer 18 (usage): for every input the law returns true, and what lay before the call lies as it lay. No condition. -/
import Derived.Test.YthhmhcfahlnmpaaLaw
import Derived.Test.YthhmhcfahlnmpaaOpen
import Derived.Test.YthhmhcfahlnmpaaUm
import Derived.Test.YthhmhcfahlnmpaaUt
import Derived.Test.YthhmhcfahlnmpaaRows
namespace Go.Proofs.Ythhmhcfahlnmpaa
open Go.RowKit Go.ChangeShapes Go.WideShapes Go.ChangeAt
theorem own : ownKnob Try.prog.godebug = none := by kernel_rfl
theorem laidOut : laidOutB Try.prog = true := by kernel_rfl
theorem bounds64 {x : Int} (h : (Lit.int .i64 x).wf = true) : -9223372036854775808 ≤ x ∧ x ≤ 9223372036854775807 := by
  have hmin : IntKind.i64.min = -9223372036854775808 := rfl
  have hmax : IntKind.i64.max = 9223372036854775807 := rfl
  simp only [Lit.wf, Bool.and_eq_true, decide_eq_true_eq, hmin, hmax] at h
  omega
set_option maxRecDepth 100000 in
theorem usageSums_contract {H : Type} {enc : TypeId × Value → H} (W : World) (args : List Value) (ds : List (DataW H)) (p : List MemPlace)
    (hval : ∀ (j : Nat) t v, Try.f5.params.toList[j]? = some t → args[j]? = some v → ∃ base, Value.okWide Try.prog W .any base t v)
    (hA : DataW.TrodAll enc Try.prog W 0 (fun _ => true) true Try.f5.params.toList args ds p)
    (hsz : (DataW.weightsEach Try.prog Try.f5.params.toList ds).all (· ≤ reachBytes) = true) :
    Calls Try.prog 5 args.toArray W fun e W' => e = .returned (.bool true) ∧ Below W.heap.size W W' := by
  rw [Try.params5] at hA hval hsz
  obtain ⟨v0, vs0, d0, ds0, p0, q0, rfl, rfl, rfl, h0, r0⟩ := trodAll_cons hA
  obtain ⟨v1, vs1, d1, ds1, p1, q1, rfl, rfl, rfl, h1, r1⟩ := trodAll_cons r0
  obtain ⟨v2, vs2, d2, ds2, p2, q2, rfl, rfl, rfl, h2, r2⟩ := trodAll_cons r1
  obtain ⟨v3, vs3, d3, ds3, p3, q3, rfl, rfl, rfl, h3, r3⟩ := trodAll_cons r2
  obtain ⟨rfl, rfl, rfl⟩ := trodAll_nil r3
  obtain ⟨b0, o0⟩ := hval 0 23 v0 rfl rfl
  obtain ⟨b1, o1⟩ := hval 1 24 v1 rfl rfl
  obtain ⟨b2, o2⟩ := hval 2 3 v2 rfl rfl
  obtain ⟨b3, o3⟩ := hval 3 3 v3 rfl rfl
  obtain ⟨cs0, rfl, hs0, hx0⟩ := open_nums Try.underlying23 (by kernel_rfl) (by kernel_rfl) geo_fields o0 h0
  obtain ⟨g, rfl⟩ := geo_of hs0 hx0
  obtain ⟨A1, n1, c1, L1, rfl, hn1, hA1, hS1, hp1, ha1⟩ := open_places o1 h1 (j := 1) rfl rfl hsz
  obtain ⟨x, rfl, rfl, rfl, w2⟩ := open_int Try.underlying3 o2 h2
  obtain ⟨y, rfl, rfl, rfl, w3⟩ := open_int Try.underlying3 o3 h3
  exact sums5 g L1 A1 n1 c1 x y W hn1 hA1 hS1 hp1 ha1 (okWide_cap Try.underlying24 o1 hA1)
set_option maxRecDepth 100000 in
theorem usageSums_lifted (os : Os) (started : os.Started) (H : Type) (enc : TypeId × Value → H) :
    ReturnsInHanded {} Try.checked os 5 .any (Rows.usageSumsSpec.pre6 enc Try.prog Try.f5 Rows.usageSumsRow.domain false) (Rows.usageSumsSpec.post enc Try.prog Try.f5 false true false false) :=
  law_lifted (C := Try.checked) own started (by kernel_rfl) Try.func5
    (ChangeSpec.witness6 (enc := enc) (C := Try.checked) false ⟨#[], #[.agg #[.int .i64 0, .int .i64 0, .int .i64 0, .int .i64 0, .int .i64 0], .slice none 0 0, .int .i64 0, .int .i64 0], []⟩ 8 (by kernel_rfl) (by kernel_rfl) (by kernel_rfl) (by kernel_rfl))
    laidOut (by kernel_rfl) rfl rfl Try.underlying4 (fun ds h => by match ds, h with | [_, _, _, _], _ => rfl) (fun W args ds p h1 h2 h3 => usageSums_contract W args ds p h1 h2 h3)
theorem usageSums_over : Rows.usageSumsRow.holds Try.pinned (OpenSpec.ofChange Rows.usageSumsSpec) :=
  OpenClaim.holds_of_wide 5 Try.f5 rfl rfl rfl rfl rfl rfl rfl ⟨rfl, rfl, rfl, rfl, rfl⟩ rfl rfl rfl rfl rfl (by kernel_rfl) Try.func5 (by kernel_rfl)
    (of_decide_eq_true (by kernel_rfl)) (by unfold Func.isWrapper; rw [if_neg (of_decide_eq_false (by kernel_rfl))]; exact ⟨rfl, rfl⟩)
    (fun os started H enc _ => usageSums_lifted os started H enc)
/-- The statement UsageSums. -/
theorem usageSums_holds : Rows.UsageSumsSaid := usageSums_over
#print axioms usageSums_holds
end Go.Proofs.Ythhmhcfahlnmpaa
