/- The given statements of layer 5 (lz): for every input the law returns true, and what lay before the call lies as it lay. No condition. -/
import Derived.Test.YtbaibkckigdndaaLaw
import Derived.Test.YtbaibkckigdndaaOpen
import Derived.Test.YtbaibkckigdndaaM
import Derived.Test.YtbaibkckigdndaaX
import Derived.Test.YtbaibkckigdndaaRows
namespace Go.Proofs.Ytbaibkckigdndaa
open Go.RowKit Go.ChangeShapes Go.WideShapes Go.ChangeAt
theorem own : ownKnob Try.prog.godebug = none := by kernel_rfl
theorem laidOut : laidOutB Try.prog = true := by kernel_rfl
theorem bounds64 {x : Int} (h : (Lit.int .i64 x).wf = true) : -9223372036854775808 ≤ x ∧ x ≤ 9223372036854775807 := by
  have hmin : IntKind.i64.min = -9223372036854775808 := rfl
  have hmax : IntKind.i64.max = 9223372036854775807 := rfl
  simp only [Lit.wf, Bool.and_eq_true, decide_eq_true_eq, hmin, hmax] at h
  omega
theorem cells5 : Try.prog.cellsOf 5 = 1 := by kernel_rfl
theorem bytes5 : Try.prog.bytesOf 5 = 1 := by kernel_rfl
theorem u8_bd {x : Int} (h : (Lit.int .u8 x).wf = true) : 0 ≤ x ∧ x < 256 := by
  have hmin : IntKind.u8.min = 0 := rfl
  have hmax : IntKind.u8.max = 255 := rfl
  simp only [Lit.wf, Bool.and_eq_true, decide_eq_true_eq, hmin, hmax] at h
  omega
set_option maxRecDepth 100000 in
theorem lzRows_contract {H : Type} {enc : TypeId × Value → H} (W : World) (args : List Value) (ds : List (DataW H)) (p : List MemPlace)
    (hval : ∀ (j : Nat) t v, Try.f7.params.toList[j]? = some t → args[j]? = some v → ∃ base, Value.okWide Try.prog W .any base t v)
    (hA : DataW.TrodAll enc Try.prog W 0 (fun _ => true) true Try.f7.params.toList args ds p)
    (hsz : (DataW.weightsEach Try.prog Try.f7.params.toList ds).all (· ≤ reachBytes) = true) :
    Calls Try.prog 7 args.toArray W fun e W' => e = .returned (.bool true) ∧ Below W.heap.size W W' := by
  rw [Try.params7] at hA hval hsz
  obtain ⟨v0, vs0, d0, ds0, p0, q0, rfl, rfl, rfl, h0, r0⟩ := trodAll_cons hA
  obtain ⟨v1, vs1, d1, ds1, p1, q1, rfl, rfl, rfl, h1, r1⟩ := trodAll_cons r0
  obtain ⟨rfl, rfl, rfl⟩ := trodAll_nil r1
  obtain ⟨b0, o0⟩ := hval 0 25 v0 rfl rfl
  obtain ⟨b1, o1⟩ := hval 1 25 v1 rfl rfl
  obtain ⟨A0, n0, c0, f0, rfl, hnc0, hcm0, hby0, ha0, hn0, wf0⟩ := open_i64s Try.underlying25 Try.underlying5 cells5 o0 h0 (j := 0) rfl rfl hsz
  rw [bytes5] at hby0
  simp only [reachBytes] at hby0
  obtain ⟨A1, n1, c1, f1, rfl, hnc1, hcm1, hby1, ha1, hn1, wf1⟩ := open_i64s Try.underlying25 Try.underlying5 cells5 o1 h1 (j := 1) rfl rfl hsz
  rw [bytes5] at hby1
  simp only [reachBytes] at hby1
  exact rows7 f0 A0 n0 c0 f1 A1 n1 c1 W hnc0 hnc1 (by omega) (by omega) hn0 hn1 ha0 ha1 (fun i hi => u8_bd (wf0 i hi)) fun i hi => u8_bd (wf1 i hi)
set_option maxRecDepth 100000 in
theorem lzRows_lifted (os : Os) (started : os.Started) (H : Type) (enc : TypeId × Value → H) :
    ReturnsInHanded {} Try.checked os 7 .any (Rows.lzRowsSpec.pre6 enc Try.prog Try.f7 Rows.lzRowsRow.domain false) (Rows.lzRowsSpec.post enc Try.prog Try.f7 false true false false) :=
  law_lifted (C := Try.checked) own started (by kernel_rfl) Try.func7
    (ChangeSpec.witness6 (enc := enc) (C := Try.checked) false ⟨#[], #[.slice none 0 0, .slice none 0 0], []⟩ 8 (by kernel_rfl) (by kernel_rfl) (by kernel_rfl) (by kernel_rfl))
    laidOut (by kernel_rfl) rfl rfl Try.underlying4 (fun ds h => by match ds, h with | [_, _], _ => rfl) (fun W args ds p h1 h2 h3 => lzRows_contract W args ds p h1 h2 h3)
theorem lzRows_over : Rows.lzRowsRow.holds Try.pinned (OpenSpec.ofChange Rows.lzRowsSpec) :=
  OpenClaim.holds_of_wide 7 Try.f7 rfl rfl rfl rfl rfl rfl rfl ⟨rfl, rfl, rfl, rfl, rfl⟩ rfl rfl rfl rfl rfl (by kernel_rfl) Try.func7 (by kernel_rfl)
    (of_decide_eq_true (by kernel_rfl)) (by unfold Func.isWrapper; rw [if_neg (of_decide_eq_false (by kernel_rfl))]; exact ⟨rfl, rfl⟩)
    (fun os started H enc _ => lzRows_lifted os started H enc)
/-- The statement LzRows. -/
theorem lzRows_holds : Rows.LzRowsSaid := lzRows_over
#print axioms lzRows_holds
end Go.Proofs.Ytbaibkckigdndaa
