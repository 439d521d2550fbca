/- The given statements of layer 23 (maps): for every input the law returns true, and what lay before the call lies as it lay. No condition. -/
import Derived.Test.YtodhaaaodmcplaaLaw
import Derived.Test.YtodhaaaodmcplaaOpen
import Derived.Test.YtodhaaaodmcplaaNr
import Derived.Test.YtodhaaaodmcplaaRows
set_option linter.all false
namespace Go.Proofs.Ytodhaaaodmcplaa
open Go.RowKit Go.ChangeShapes Go.WideShapes Go.ChangeAt
theorem own : ownKnob Try.prog.godebug = none := by kernel_rfl
theorem laidOut : laidOutB Try.prog = true := by kernel_rfl
theorem bounds64 {x : Int} (h : (Lit.int .i64 x).wf = true) : -9223372036854775808 ≤ x ∧ x ≤ 9223372036854775807 := by
  have hmin : IntKind.i64.min = -9223372036854775808 := rfl
  have hmax : IntKind.i64.max = 9223372036854775807 := rfl
  simp only [Lit.wf, Bool.and_eq_true, decide_eq_true_eq, hmin, hmax] at h
  omega
set_option maxRecDepth 100000 in
theorem mapsKeep_contract {H : Type} {enc : TypeId × Value → H} (W : World) (args : List Value) (ds : List (DataW H)) (p : List MemPlace)
    (hval : ∀ (j : Nat) t v, Try.f4.params.toList[j]? = some t → args[j]? = some v → ∃ base, Value.okWide Try.prog W .any base t v)
    (hA : DataW.TrodAll enc Try.prog W 0 (fun _ => true) true Try.f4.params.toList args ds p)
    (hsz : (DataW.weightsEach Try.prog Try.f4.params.toList ds).all (· ≤ reachBytes) = true) :
    Calls Try.prog 4 args.toArray W fun e W' => e = .returned (.bool true) ∧ Below W.heap.size W W' := by
  rw [Try.params4] at hA hval hsz
  obtain ⟨v0, vs0, d0, ds0, p0, q0, rfl, rfl, rfl, h0, r0⟩ := trodAll_cons hA
  obtain ⟨v1, vs1, d1, ds1, p1, q1, rfl, rfl, rfl, h1, r1⟩ := trodAll_cons r0
  obtain ⟨v2, vs2, d2, ds2, p2, q2, rfl, rfl, rfl, h2, r2⟩ := trodAll_cons r1
  obtain ⟨rfl, rfl, rfl⟩ := trodAll_nil r2
  obtain ⟨b0, o0⟩ := hval 0 3 v0 rfl rfl
  obtain ⟨b1, o1⟩ := hval 1 47 v1 rfl rfl
  obtain ⟨b2, o2⟩ := hval 2 47 v2 rfl rfl
  obtain ⟨un, rfl, rfl, rfl, w0⟩ := open_int Try.underlying3 o0 h0
  obtain ⟨A1, n1, c1, L1, rfl, hnc1, hby1, hA1, hL1, ha1⟩ := open_dos o1 h1 (j := 1) rfl rfl hsz
  obtain ⟨A2, n2, c2, L2, rfl, hnc2, hby2, hA2, hL2, ha2⟩ := open_dos o2 h2 (j := 2) rfl rfl hsz
  exact keep4 un L1 A1 n1 c1 L2 A2 n2 c2 W w0 hnc1 hA1 hL1 ha1 hnc2 hA2 hL2 ha2
set_option maxRecDepth 100000 in
theorem mapsKeep_lifted (os : Os) (started : os.Started) (H : Type) (enc : TypeId × Value → H) :
    ReturnsInHanded {} Try.checked os 4 .any (Rows.mapsKeepSpec.pre6 enc Try.prog Try.f4 Rows.mapsKeepRow.domain false) (Rows.mapsKeepSpec.post enc Try.prog Try.f4 false true false false) :=
  law_lifted (C := Try.checked) own started (by kernel_rfl) Try.func4
    (ChangeSpec.witness6 (enc := enc) (C := Try.checked) false ⟨#[], #[.int .i64 0, .slice none 0 0, .slice none 0 0], []⟩ 8 (by kernel_rfl) (by kernel_rfl) (by kernel_rfl) (by kernel_rfl))
    laidOut (by kernel_rfl) rfl rfl Try.underlying4 (fun ds h => by match ds, h with | [_, _, _], _ => rfl) (fun W args ds p h1 h2 h3 => mapsKeep_contract W args ds p h1 h2 h3)
theorem mapsKeep_over : Rows.mapsKeepRow.holds Try.pinned (OpenSpec.ofChange Rows.mapsKeepSpec) :=
  OpenClaim.holds_of_wide 4 Try.f4 rfl rfl rfl rfl rfl rfl rfl ⟨rfl, rfl, rfl, rfl, rfl⟩ rfl rfl rfl rfl rfl (by kernel_rfl) Try.func4 (by kernel_rfl)
    (of_decide_eq_true (by kernel_rfl)) (by unfold Func.isWrapper; rw [if_neg (of_decide_eq_false (by kernel_rfl))]; exact ⟨rfl, rfl⟩)
    (fun os started H enc _ => mapsKeep_lifted os started H enc)
/-- The statement MapsKeep. -/
theorem mapsKeep_holds : Rows.MapsKeepSaid := mapsKeep_over
#print axioms mapsKeep_holds
end Go.Proofs.Ytodhaaaodmcplaa
