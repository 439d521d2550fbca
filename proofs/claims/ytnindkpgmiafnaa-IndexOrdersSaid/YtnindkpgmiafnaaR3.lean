/- The given statements of layer 22 (index): for every input the law returns true, and what lay before the call lies as it lay. No condition. -/
import Derived.Test.YtnindkpgmiafnaaLaw
import Derived.Test.YtnindkpgmiafnaaOpen
import Derived.Test.YtnindkpgmiafnaaLo
import Derived.Test.YtnindkpgmiafnaaRows
namespace Go.Proofs.Ytnindkpgmiafnaa
open Go.RowKit Go.ChangeShapes Go.WideShapes Go.ChangeAt
theorem own : ownKnob Try.prog.godebug = none := by kernel_rfl
theorem laidOut : laidOutB Try.prog = true := by kernel_rfl
theorem bounds64 {x : Int} (h : (Lit.int .i64 x).wf = true) : -9223372036854775808 ≤ x ∧ x ≤ 9223372036854775807 := by
  have hmin : IntKind.i64.min = -9223372036854775808 := rfl
  have hmax : IntKind.i64.max = 9223372036854775807 := rfl
  simp only [Lit.wf, Bool.and_eq_true, decide_eq_true_eq, hmin, hmax] at h
  omega
set_option maxRecDepth 100000 in
theorem indexOrders_contract {H : Type} {enc : TypeId × Value → H} (W : World) (args : List Value) (ds : List (DataW H)) (p : List MemPlace)
    (hval : ∀ (j : Nat) t v, Try.f3.params.toList[j]? = some t → args[j]? = some v → ∃ base, Value.okWide Try.prog W .any base t v)
    (hA : DataW.TrodAll enc Try.prog W 0 (fun _ => true) true Try.f3.params.toList args ds p)
    (hsz : (DataW.weightsEach Try.prog Try.f3.params.toList ds).all (· ≤ reachBytes) = true) :
    Calls Try.prog 3 args.toArray W fun e W' => e = .returned (.bool true) ∧ Below W.heap.size W W' := by
  rw [Try.params3] at hA hval hsz
  obtain ⟨v0, vs0, d0, ds0, p0, q0, rfl, rfl, rfl, h0, r0⟩ := trodAll_cons hA
  obtain ⟨v1, vs1, d1, ds1, p1, q1, rfl, rfl, rfl, h1, r1⟩ := trodAll_cons r0
  obtain ⟨rfl, rfl, rfl⟩ := trodAll_nil r1
  obtain ⟨b0, o0⟩ := hval 0 22 v0 rfl rfl
  obtain ⟨b1, o1⟩ := hval 1 3 v1 rfl rfl
  obtain ⟨A0, n0, c0, L0, rfl, hnc0, hby0, hA0, hL0, ha0⟩ := open_deeds o0 h0 (j := 0) rfl rfl hsz
  obtain ⟨st, rfl, rfl, rfl, w1⟩ := open_int Try.underlying3 o1 h1
  exact orders3 L0 A0 n0 c0 st W hnc0 hA0 hL0 ha0 w1
set_option maxRecDepth 100000 in
theorem indexOrders_lifted (os : Os) (started : os.Started) (H : Type) (enc : TypeId × Value → H) :
    ReturnsInHanded {} Try.checked os 3 .any (Rows.indexOrdersSpec.pre6 enc Try.prog Try.f3 Rows.indexOrdersRow.domain false) (Rows.indexOrdersSpec.post enc Try.prog Try.f3 false true false false) :=
  law_lifted (C := Try.checked) own started (by kernel_rfl) Try.func3
    (ChangeSpec.witness6 (enc := enc) (C := Try.checked) false ⟨#[], #[.slice none 0 0, .int .i64 0], []⟩ 8 (by kernel_rfl) (by kernel_rfl) (by kernel_rfl) (by kernel_rfl))
    laidOut (by kernel_rfl) rfl rfl Try.underlying4 (fun ds h => by match ds, h with | [_, _], _ => rfl) (fun W args ds p h1 h2 h3 => indexOrders_contract W args ds p h1 h2 h3)
theorem indexOrders_over : Rows.indexOrdersRow.holds Try.pinned (OpenSpec.ofChange Rows.indexOrdersSpec) :=
  OpenClaim.holds_of_wide 3 Try.f3 rfl rfl rfl rfl rfl rfl rfl ⟨rfl, rfl, rfl, rfl, rfl⟩ rfl rfl rfl rfl rfl (by kernel_rfl) Try.func3 (by kernel_rfl)
    (of_decide_eq_true (by kernel_rfl)) (by unfold Func.isWrapper; rw [if_neg (of_decide_eq_false (by kernel_rfl))]; exact ⟨rfl, rfl⟩)
    (fun os started H enc _ => indexOrders_lifted os started H enc)
/-- The statement IndexOrders. -/
theorem indexOrders_holds : Rows.IndexOrdersSaid := indexOrders_over
#print axioms indexOrders_holds
end Go.Proofs.Ytnindkpgmiafnaa
