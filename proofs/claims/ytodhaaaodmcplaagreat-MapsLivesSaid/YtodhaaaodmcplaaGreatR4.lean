/- The given statements of layer 23 (maps): for every input the law returns true, and what lay before the call lies as it lay. No condition. -/
import Derived.Test.YtodhaaaodmcplaaGreatLaw
import Derived.Test.YtodhaaaodmcplaaGreatOpen
import Derived.Test.YtodhaaaodmcplaaGreatQi
import Derived.Test.YtodhaaaodmcplaaGreatRows
set_option linter.all false
namespace Go.Proofs.YtodhaaaodmcplaaGreat
open Go.RowKit Go.ChangeShapes Go.WideShapes Go.ChangeAt
theorem own : ownKnob Tryz.prog.godebug = none := by kernel_rfl
theorem laidOut : laidOutB Tryz.prog = true := by kernel_rfl
theorem bounds64 {x : Int} (h : (Lit.int .i64 x).wf = true) : -9223372036854775808 ≤ x ∧ x ≤ 9223372036854775807 := by
  have hmin : IntKind.i64.min = -9223372036854775808 := rfl
  have hmax : IntKind.i64.max = 9223372036854775807 := rfl
  simp only [Lit.wf, Bool.and_eq_true, decide_eq_true_eq, hmin, hmax] at h
  omega
set_option maxRecDepth 100000 in
theorem mapsLives_contract {H : Type} {enc : TypeId × Value → H} (W : World) (args : List Value) (ds : List (DataW H)) (p : List MemPlace)
    (hval : ∀ (j : Nat) t v, Tryz.f3.params.toList[j]? = some t → args[j]? = some v → ∃ base, Value.okWide Tryz.prog W .any base t v)
    (hA : DataW.TrodAll enc Tryz.prog W 0 (fun _ => true) true Tryz.f3.params.toList args ds p)
    (hsz : (DataW.weightsEach Tryz.prog Tryz.f3.params.toList ds).all (· ≤ reachBytes) = true) :
    Calls Tryz.prog 3 args.toArray W fun e W' => e = .returned (.bool true) ∧ Below W.heap.size W W' := by
  rw [Tryz.params3] at hA hval hsz
  obtain ⟨v0, vs0, d0, ds0, p0, q0, rfl, rfl, rfl, h0, r0⟩ := trodAll_cons hA
  obtain ⟨v1, vs1, d1, ds1, p1, q1, rfl, rfl, rfl, h1, r1⟩ := trodAll_cons r0
  obtain ⟨rfl, rfl, rfl⟩ := trodAll_nil r1
  obtain ⟨b0, o0⟩ := hval 0 3 v0 rfl rfl
  obtain ⟨b1, o1⟩ := hval 1 22 v1 rfl rfl
  obtain ⟨un, rfl, rfl, rfl, w0⟩ := open_int Tryz.underlying3 o0 h0
  obtain ⟨A1, n1, c1, L1, rfl, hnc1, hby1, hA1, hL1, ha1⟩ := open_dos o1 h1 (j := 1) rfl rfl hsz
  exact lives3 un L1 A1 n1 c1 W (fun i hi => ⟨(hL1 i hi).1, (hL1 i hi).2.1, (hL1 i hi).2.2.1, (hL1 i hi).2.2.2.1⟩) ha1
set_option maxRecDepth 100000 in
theorem mapsLives_lifted (os : Os) (started : os.Started) (H : Type) (enc : TypeId × Value → H) :
    ReturnsInHanded {} Tryz.checked os 3 .any (Rows.mapsLivesSpec.pre6 enc Tryz.prog Tryz.f3 Rows.mapsLivesRow.domain false) (Rows.mapsLivesSpec.post enc Tryz.prog Tryz.f3 false true false false) :=
  law_lifted (C := Tryz.checked) own started (by kernel_rfl) Tryz.func3
    (ChangeSpec.witness6 (enc := enc) (C := Tryz.checked) false ⟨#[], #[.int .i64 0, .slice none 0 0], []⟩ 8 (by kernel_rfl) (by kernel_rfl) (by kernel_rfl) (by kernel_rfl))
    laidOut (by kernel_rfl) rfl rfl Tryz.underlying4 (fun ds h => by match ds, h with | [_, _], _ => rfl) (fun W args ds p h1 h2 h3 => mapsLives_contract W args ds p h1 h2 h3)
theorem mapsLives_over : Rows.mapsLivesRow.holds Tryz.pinned (OpenSpec.ofChange Rows.mapsLivesSpec) :=
  OpenClaim.holds_of_wide 3 Tryz.f3 rfl rfl rfl rfl rfl rfl rfl ⟨rfl, rfl, rfl, rfl, rfl⟩ rfl rfl rfl rfl rfl (by kernel_rfl) Tryz.func3 (by kernel_rfl)
    (of_decide_eq_true (by kernel_rfl)) (by unfold Func.isWrapper; rw [if_neg (of_decide_eq_false (by kernel_rfl))]; exact ⟨rfl, rfl⟩)
    (fun os started H enc _ => mapsLives_lifted os started H enc)
/-- The statement MapsLives. -/
theorem mapsLives_holds : Rows.MapsLivesSaid := mapsLives_over
#print axioms mapsLives_holds
end Go.Proofs.YtodhaaaodmcplaaGreat
