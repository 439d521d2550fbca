/- The given statements of layer 5 (lz): for every input the law returns true, and what lay before the call lies as it lay. No condition. -/
import Derived.Test.YtbaibkckigdndaaLaw
import Derived.Test.YtbaibkckigdndaaOpen
import Derived.Test.YtbaibkckigdndaaM
import Derived.Test.YtbaibkckigdndaaNb
import Derived.Test.YtbaibkckigdndaaRows
namespace Go.Proofs.Ytbaibkckigdndaa
open Go.RowKit Go.ChangeShapes Go.WideShapes Go.ChangeAt
theorem own : ownKnob Try.prog.godebug = none := by kernel_rfl
theorem laidOut : laidOutB Try.prog = true := by kernel_rfl
theorem bounds64 {x : Int} (h : (Lit.int .i64 x).wf = true) : -9223372036854775808 ≤ x ∧ x ≤ 9223372036854775807 := by
  have hmin : IntKind.i64.min = -9223372036854775808 := rfl
  have hmax : IntKind.i64.max = 9223372036854775807 := rfl
  simp only [Lit.wf, Bool.and_eq_true, decide_eq_true_eq, hmin, hmax] at h
  omega
set_option maxRecDepth 100000 in
theorem lzNumbers_contract {H : Type} {enc : TypeId × Value → H} (W : World) (args : List Value) (ds : List (DataW H)) (p : List MemPlace)
    (hval : ∀ (j : Nat) t v, Try.f4.params.toList[j]? = some t → args[j]? = some v → ∃ base, Value.okWide Try.prog W .any base t v)
    (hA : DataW.TrodAll enc Try.prog W 0 (fun _ => true) true Try.f4.params.toList args ds p)
    (hsz : (DataW.weightsEach Try.prog Try.f4.params.toList ds).all (· ≤ reachBytes) = true) :
    Calls Try.prog 4 args.toArray W fun e W' => e = .returned (.bool true) ∧ Below W.heap.size W W' := by
  rw [Try.params4] at hA hval hsz
  obtain ⟨rfl, rfl, rfl⟩ := trodAll_nil hA
  exact numbers4 W
set_option maxRecDepth 100000 in
theorem lzNumbers_lifted (os : Os) (started : os.Started) (H : Type) (enc : TypeId × Value → H) :
    ReturnsInHanded {} Try.checked os 4 .any (Rows.lzNumbersSpec.pre6 enc Try.prog Try.f4 Rows.lzNumbersRow.domain false) (Rows.lzNumbersSpec.post enc Try.prog Try.f4 false true false false) :=
  law_lifted (C := Try.checked) own started (by kernel_rfl) Try.func4
    (ChangeSpec.witness6 (enc := enc) (C := Try.checked) false ⟨#[], #[], []⟩ 8 (by kernel_rfl) (by kernel_rfl) (by kernel_rfl) (by kernel_rfl))
    laidOut (by kernel_rfl) rfl rfl Try.underlying4 (fun ds h => by match ds, h with | [], _ => rfl) (fun W args ds p h1 h2 h3 => lzNumbers_contract W args ds p h1 h2 h3)
theorem lzNumbers_over : Rows.lzNumbersRow.holds Try.pinned (OpenSpec.ofChange Rows.lzNumbersSpec) :=
  OpenClaim.holds_of_wide 4 Try.f4 rfl rfl rfl rfl rfl rfl rfl ⟨rfl, rfl, rfl, rfl, rfl⟩ rfl rfl rfl rfl rfl (by kernel_rfl) Try.func4 (by kernel_rfl)
    (of_decide_eq_true (by kernel_rfl)) (by unfold Func.isWrapper; rw [if_neg (of_decide_eq_false (by kernel_rfl))]; exact ⟨rfl, rfl⟩)
    (fun os started H enc _ => lzNumbers_lifted os started H enc)
/-- The statement LzNumbers. -/
theorem lzNumbers_holds : Rows.LzNumbersSaid := lzNumbers_over
#print axioms lzNumbers_holds
end Go.Proofs.Ytbaibkckigdndaa
