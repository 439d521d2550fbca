/- The given statements of layer 3 (bitio): for every input the law returns true, and what lay before the call lies as it lay. No condition. -/
import Derived.Test.YtkkjcbakgjabdaaLaw
import Derived.Test.YtkkjcbakgjabdaaOpen
import Derived.Test.YtkkjcbakgjabdaaJ
import Derived.Test.YtkkjcbakgjabdaaP
import Derived.Test.YtkkjcbakgjabdaaQ
import Derived.Test.YtkkjcbakgjabdaaRows
namespace Go.Proofs.Ytkkjcbakgjabdaa
open Go.RowKit Go.ChangeShapes Go.WideShapes Go.ChangeAt
theorem own : ownKnob Try.prog.godebug = none := by kernel_rfl
theorem laidOut : laidOutB Try.prog = true := by kernel_rfl
theorem bounds64 {x : Int} (h : (Lit.int .i64 x).wf = true) : -9223372036854775808 ≤ x ∧ x ≤ 9223372036854775807 := by
  have hmin : IntKind.i64.min = -9223372036854775808 := rfl
  have hmax : IntKind.i64.max = 9223372036854775807 := rfl
  simp only [Lit.wf, Bool.and_eq_true, decide_eq_true_eq, hmin, hmax] at h
  omega
theorem cells3 : Try.prog.cellsOf 3 = 1 := by kernel_rfl
theorem bytes3 : Try.prog.bytesOf 3 = 8 := by kernel_rfl
theorem cells5 : Try.prog.cellsOf 5 = 1 := by kernel_rfl
theorem bytes5 : Try.prog.bytesOf 5 = 1 := by kernel_rfl
theorem bounds8 {n : Nat} {f : Nat → Int} (h : ∀ j, j < n → (Lit.int .u8 (f j)).wf = true) (j : Nat) (hj : j < n) : 0 ≤ f j ∧ f j < 256 := by
  have := bounds_u8 (h j hj); omega
set_option maxRecDepth 100000 in
theorem bitioReads_contract {H : Type} {enc : TypeId × Value → H} (W : World) (args : List Value) (ds : List (DataW H)) (p : List MemPlace)
    (hval : ∀ (j : Nat) t v, Try.f5.params.toList[j]? = some t → args[j]? = some v → ∃ base, Value.okWide Try.prog W .any base t v)
    (hA : DataW.TrodAll enc Try.prog W 0 (fun _ => true) true Try.f5.params.toList args ds p)
    (hsz : (DataW.weightsEach Try.prog Try.f5.params.toList ds).all (· ≤ reachBytes) = true) :
    Calls Try.prog 5 args.toArray W fun e W' => e = .returned (.bool true) ∧ Below W.heap.size W W' := by
  rw [Try.params5] at hA hval hsz
  obtain ⟨v0, vs0, d0, ds0, p0, q0, rfl, rfl, rfl, h0, r0⟩ := trodAll_cons hA
  obtain ⟨v1, vs1, d1, ds1, p1, q1, rfl, rfl, rfl, h1, r1⟩ := trodAll_cons r0
  obtain ⟨rfl, rfl, rfl⟩ := trodAll_nil r1
  obtain ⟨b0, o0⟩ := hval 0 22 v0 rfl rfl
  obtain ⟨b1, o1⟩ := hval 1 38 v1 rfl rfl
  obtain ⟨A, n, c, f, rfl, hnc0, hcm0, hby0, ha0, hn0, wf0⟩ := open_i64s Try.underlying22 Try.underlying5 cells5 o0 h0 (j := 0) rfl rfl hsz
  rw [bytes5] at hby0
  simp only [reachBytes] at hby0
  obtain ⟨A1, n1, c1, g1, rfl, hnc1, hcm1, ha1, hn1, wf1⟩ := one44 o1 h1 (j := 1) rfl rfl hsz
  unfold maxLen at hcm1
  exact reads5 f g1 A A1 n c n1 c1 W (by omega) (by omega) (bounds8 wf0) ha0 hn0 ha1 wf1
set_option maxRecDepth 100000 in
theorem bitioReads_lifted (os : Os) (started : os.Started) (H : Type) (enc : TypeId × Value → H) :
    ReturnsInHanded {} Try.checked os 5 .any (Rows.bitioReadsSpec.pre6 enc Try.prog Try.f5 Rows.bitioReadsRow.domain false) (Rows.bitioReadsSpec.post enc Try.prog Try.f5 false true false false) :=
  law_lifted (C := Try.checked) own started (by kernel_rfl) Try.func5
    (ChangeSpec.witness6 (enc := enc) (C := Try.checked) false ⟨#[], #[.slice none 0 0, .slice none 0 0], []⟩ 8 (by kernel_rfl) (by kernel_rfl) (by kernel_rfl) (by kernel_rfl))
    laidOut (by kernel_rfl) rfl rfl Try.underlying4 (fun ds h => by match ds, h with | [_, _], _ => rfl) (fun W args ds p h1 h2 h3 => bitioReads_contract W args ds p h1 h2 h3)
theorem bitioReads_over : Rows.bitioReadsRow.holds Try.pinned (OpenSpec.ofChange Rows.bitioReadsSpec) :=
  OpenClaim.holds_of_wide 5 Try.f5 rfl rfl rfl rfl rfl rfl rfl ⟨rfl, rfl, rfl, rfl, rfl⟩ rfl rfl rfl rfl rfl (by kernel_rfl) Try.func5 (by kernel_rfl)
    (of_decide_eq_true (by kernel_rfl)) (by unfold Func.isWrapper; rw [if_neg (of_decide_eq_false (by kernel_rfl))]; exact ⟨rfl, rfl⟩)
    (fun os started H enc _ => bitioReads_lifted os started H enc)
/-- The statement BitioReads. -/
theorem bitioReads_holds : Rows.BitioReadsSaid := bitioReads_over
#print axioms bitioReads_holds
set_option maxRecDepth 100000 in
theorem bitioNil_contract {H : Type} {enc : TypeId × Value → H} (W : World) (args : List Value) (ds : List (DataW H)) (p : List MemPlace)
    (hval : ∀ (j : Nat) t v, Try.f6.params.toList[j]? = some t → args[j]? = some v → ∃ base, Value.okWide Try.prog W .any base t v)
    (hA : DataW.TrodAll enc Try.prog W 0 (fun _ => true) true Try.f6.params.toList args ds p)
    (hsz : (DataW.weightsEach Try.prog Try.f6.params.toList ds).all (· ≤ reachBytes) = true) :
    Calls Try.prog 6 args.toArray W fun e W' => e = .returned (.bool true) ∧ Below W.heap.size W W' := by
  rw [Try.params6] at hA hval hsz
  obtain ⟨v0, vs0, d0, ds0, p0, q0, rfl, rfl, rfl, h0, r0⟩ := trodAll_cons hA
  obtain ⟨v1, vs1, d1, ds1, p1, q1, rfl, rfl, rfl, h1, r1⟩ := trodAll_cons r0
  obtain ⟨rfl, rfl, rfl⟩ := trodAll_nil r1
  obtain ⟨b0, o0⟩ := hval 0 31 v0 rfl rfl
  obtain ⟨b1, o1⟩ := hval 1 3 v1 rfl rfl
  obtain ⟨x, rfl, rfl, rfl, w0⟩ := open_int Try.underlying31 o0 h0
  obtain ⟨y, rfl, rfl, rfl, w1⟩ := open_int Try.underlying3 o1 h1
  exact nil6 x y W
set_option maxRecDepth 100000 in
theorem bitioNil_lifted (os : Os) (started : os.Started) (H : Type) (enc : TypeId × Value → H) :
    ReturnsInHanded {} Try.checked os 6 .any (Rows.bitioNilSpec.pre6 enc Try.prog Try.f6 Rows.bitioNilRow.domain false) (Rows.bitioNilSpec.post enc Try.prog Try.f6 false true false false) :=
  law_lifted (C := Try.checked) own started (by kernel_rfl) Try.func6
    (ChangeSpec.witness6 (enc := enc) (C := Try.checked) false ⟨#[], #[.int .u32 0, .int .i64 0], []⟩ 8 (by kernel_rfl) (by kernel_rfl) (by kernel_rfl) (by kernel_rfl))
    laidOut (by kernel_rfl) rfl rfl Try.underlying4 (fun ds h => by match ds, h with | [_, _], _ => rfl) (fun W args ds p h1 h2 h3 => bitioNil_contract W args ds p h1 h2 h3)
theorem bitioNil_over : Rows.bitioNilRow.holds Try.pinned (OpenSpec.ofChange Rows.bitioNilSpec) :=
  OpenClaim.holds_of_wide 6 Try.f6 rfl rfl rfl rfl rfl rfl rfl ⟨rfl, rfl, rfl, rfl, rfl⟩ rfl rfl rfl rfl rfl (by kernel_rfl) Try.func6 (by kernel_rfl)
    (of_decide_eq_true (by kernel_rfl)) (by unfold Func.isWrapper; rw [if_neg (of_decide_eq_false (by kernel_rfl))]; exact ⟨rfl, rfl⟩)
    (fun os started H enc _ => bitioNil_lifted os started H enc)
/-- The statement BitioNil. -/
theorem bitioNil_holds : Rows.BitioNilSaid := bitioNil_over
#print axioms bitioNil_holds
end Go.Proofs.Ytkkjcbakgjabdaa
