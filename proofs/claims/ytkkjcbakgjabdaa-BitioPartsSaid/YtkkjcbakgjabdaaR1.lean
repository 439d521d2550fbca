/- The given statements of layer 3 (bitio): for every input the law returns true, and what lay before the call lies as it lay. No condition. -/
import Derived.Test.YtkkjcbakgjabdaaLaw
import Derived.Test.YtkkjcbakgjabdaaOpen
import Derived.Test.YtkkjcbakgjabdaaJ
import Derived.Test.YtkkjcbakgjabdaaG
import Derived.Test.YtkkjcbakgjabdaaI
import Derived.Test.YtkkjcbakgjabdaaRows
namespace Go.Proofs.Ytkkjcbakgjabdaa
open Go.RowKit Go.ChangeShapes Go.WideShapes Go.ChangeAt
theorem own : ownKnob Try.prog.godebug = none := by kernel_rfl
theorem laidOut : laidOutB Try.prog = true := by kernel_rfl
theorem bounds64 {x : Int} (h : (Lit.int .i64 x).wf = true) : -9223372036854775808 ≤ x ∧ x ≤ 9223372036854775807 := by
  have hmin : IntKind.i64.min = -9223372036854775808 := rfl
  have hmax : IntKind.i64.max = 9223372036854775807 := rfl
  simp only [Lit.wf, Bool.and_eq_true, decide_eq_true_eq, hmin, hmax] at h
  omega
theorem cells3 : Try.prog.cellsOf 3 = 1 := by kernel_rfl
theorem bytes3 : Try.prog.bytesOf 3 = 8 := by kernel_rfl
theorem cells5 : Try.prog.cellsOf 5 = 1 := by kernel_rfl
theorem bytes5 : Try.prog.bytesOf 5 = 1 := by kernel_rfl
theorem bounds8 {n : Nat} {f : Nat → Int} (h : ∀ j, j < n → (Lit.int .u8 (f j)).wf = true) (j : Nat) (hj : j < n) : 0 ≤ f j ∧ f j < 256 := by
  have := bounds_u8 (h j hj); omega
set_option maxRecDepth 100000 in
theorem bitioParts_contract {H : Type} {enc : TypeId × Value → H} (W : World) (args : List Value) (ds : List (DataW H)) (p : List MemPlace)
    (hval : ∀ (j : Nat) t v, Try.f3.params.toList[j]? = some t → args[j]? = some v → ∃ base, Value.okWide Try.prog W .any base t v)
    (hA : DataW.TrodAll enc Try.prog W 0 (fun _ => true) true Try.f3.params.toList args ds p)
    (hsz : (DataW.weightsEach Try.prog Try.f3.params.toList ds).all (· ≤ reachBytes) = true) :
    Calls Try.prog 3 args.toArray W fun e W' => e = .returned (.bool true) ∧ Below W.heap.size W W' := by
  rw [Try.params3] at hA hval hsz
  obtain ⟨v0, vs0, d0, ds0, p0, q0, rfl, rfl, rfl, h0, r0⟩ := trodAll_cons hA
  obtain ⟨v1, vs1, d1, ds1, p1, q1, rfl, rfl, rfl, h1, r1⟩ := trodAll_cons r0
  obtain ⟨rfl, rfl, rfl⟩ := trodAll_nil r1
  obtain ⟨b0, o0⟩ := hval 0 22 v0 rfl rfl
  obtain ⟨b1, o1⟩ := hval 1 23 v1 rfl rfl
  obtain ⟨A, n, c, f, rfl, hnc0, hcm0, hby0, ha0, hn0, wf0⟩ := open_i64s Try.underlying22 Try.underlying5 cells5 o0 h0 (j := 0) rfl rfl hsz
  rw [bytes5] at hby0
  simp only [reachBytes] at hby0
  obtain ⟨S, m, c2, g, rfl, hnc1, hcm1, hby1, ha1, hn1, wf1⟩ := open_i64s Try.underlying23 Try.underlying3 cells3 o1 h1 (j := 1) rfl rfl hsz
  rw [bytes3] at hby1
  simp only [reachBytes] at hby1
  exact parts3 f g A S n c m c2 W (by omega) (by omega) (bounds8 wf0) ha0 hn0 ha1 (fun j hj => bounds64 (wf1 j hj))
set_option maxRecDepth 100000 in
theorem bitioParts_lifted (os : Os) (started : os.Started) (H : Type) (enc : TypeId × Value → H) :
    ReturnsInHanded {} Try.checked os 3 .any (Rows.bitioPartsSpec.pre6 enc Try.prog Try.f3 Rows.bitioPartsRow.domain false) (Rows.bitioPartsSpec.post enc Try.prog Try.f3 false true false false) :=
  law_lifted (C := Try.checked) own started (by kernel_rfl) Try.func3
    (ChangeSpec.witness6 (enc := enc) (C := Try.checked) false ⟨#[], #[.slice none 0 0, .slice none 0 0], []⟩ 8 (by kernel_rfl) (by kernel_rfl) (by kernel_rfl) (by kernel_rfl))
    laidOut (by kernel_rfl) rfl rfl Try.underlying4 (fun ds h => by match ds, h with | [_, _], _ => rfl) (fun W args ds p h1 h2 h3 => bitioParts_contract W args ds p h1 h2 h3)
theorem bitioParts_over : Rows.bitioPartsRow.holds Try.pinned (OpenSpec.ofChange Rows.bitioPartsSpec) :=
  OpenClaim.holds_of_wide 3 Try.f3 rfl rfl rfl rfl rfl rfl rfl ⟨rfl, rfl, rfl, rfl, rfl⟩ rfl rfl rfl rfl rfl (by kernel_rfl) Try.func3 (by kernel_rfl)
    (of_decide_eq_true (by kernel_rfl)) (by unfold Func.isWrapper; rw [if_neg (of_decide_eq_false (by kernel_rfl))]; exact ⟨rfl, rfl⟩)
    (fun os started H enc _ => bitioParts_lifted os started H enc)
/-- The statement BitioParts. -/
theorem bitioParts_holds : Rows.BitioPartsSaid := bitioParts_over
#print axioms bitioParts_holds
set_option maxRecDepth 100000 in
theorem bitioBack_contract {H : Type} {enc : TypeId × Value → H} (W : World) (args : List Value) (ds : List (DataW H)) (p : List MemPlace)
    (hval : ∀ (j : Nat) t v, Try.f8.params.toList[j]? = some t → args[j]? = some v → ∃ base, Value.okWide Try.prog W .any base t v)
    (hA : DataW.TrodAll enc Try.prog W 0 (fun _ => true) true Try.f8.params.toList args ds p)
    (hsz : (DataW.weightsEach Try.prog Try.f8.params.toList ds).all (· ≤ reachBytes) = true) :
    Calls Try.prog 8 args.toArray W fun e W' => e = .returned (.bool true) ∧ Below W.heap.size W W' := by
  rw [Try.params8] at hA hval hsz
  obtain ⟨v0, vs0, d0, ds0, p0, q0, rfl, rfl, rfl, h0, r0⟩ := trodAll_cons hA
  obtain ⟨rfl, rfl, rfl⟩ := trodAll_nil r0
  obtain ⟨b0, o0⟩ := hval 0 38 v0 rfl rfl
  obtain ⟨A0, n0, c0, g0, rfl, hnc0, hcm0, ha0, hn0, wf0⟩ := one44 o0 h0 (j := 0) rfl rfl hsz
  unfold maxLen at hcm0
  exact back8 g0 A0 n0 c0 W (by omega) hnc0 ha0 wf0
set_option maxRecDepth 100000 in
theorem bitioBack_lifted (os : Os) (started : os.Started) (H : Type) (enc : TypeId × Value → H) :
    ReturnsInHanded {} Try.checked os 8 .any (Rows.bitioBackSpec.pre6 enc Try.prog Try.f8 Rows.bitioBackRow.domain false) (Rows.bitioBackSpec.post enc Try.prog Try.f8 false true false false) :=
  law_lifted (C := Try.checked) own started (by kernel_rfl) Try.func8
    (ChangeSpec.witness6 (enc := enc) (C := Try.checked) false ⟨#[], #[.slice none 0 0], []⟩ 8 (by kernel_rfl) (by kernel_rfl) (by kernel_rfl) (by kernel_rfl))
    laidOut (by kernel_rfl) rfl rfl Try.underlying4 (fun ds h => by match ds, h with | [_], _ => rfl) (fun W args ds p h1 h2 h3 => bitioBack_contract W args ds p h1 h2 h3)
theorem bitioBack_over : Rows.bitioBackRow.holds Try.pinned (OpenSpec.ofChange Rows.bitioBackSpec) :=
  OpenClaim.holds_of_wide 8 Try.f8 rfl rfl rfl rfl rfl rfl rfl ⟨rfl, rfl, rfl, rfl, rfl⟩ rfl rfl rfl rfl rfl (by kernel_rfl) Try.func8 (by kernel_rfl)
    (of_decide_eq_true (by kernel_rfl)) (by unfold Func.isWrapper; rw [if_neg (of_decide_eq_false (by kernel_rfl))]; exact ⟨rfl, rfl⟩)
    (fun os started H enc _ => bitioBack_lifted os started H enc)
/-- The statement BitioBack. -/
theorem bitioBack_holds : Rows.BitioBackSaid := bitioBack_over
#print axioms bitioBack_holds
end Go.Proofs.Ytkkjcbakgjabdaa
