/- The given statements of layer 19 (space): for every input the law returns true, and what lay before the call lies as it lay. No condition. -/
import Derived.Test.YtgoblbmekhcekaaLaw
import Derived.Test.YtgoblbmekhcekaaO
import Derived.Test.YtgoblbmekhcekaaP
import Derived.Test.YtgoblbmekhcekaaRows
namespace Go.Proofs.Ytgoblbmekhcekaa
open Go.RowKit Go.ChangeShapes Go.WideShapes Go.ChangeAt
theorem own : ownKnob Try.prog.godebug = none := by kernel_rfl
theorem laidOut : laidOutB Try.prog = true := by kernel_rfl
theorem bounds64 {x : Int} (h : (Lit.int .i64 x).wf = true) : -9223372036854775808 ≤ x ∧ x ≤ 9223372036854775807 := by
  have hmin : IntKind.i64.min = -9223372036854775808 := rfl
  have hmax : IntKind.i64.max = 9223372036854775807 := rfl
  simp only [Lit.wf, Bool.and_eq_true, decide_eq_true_eq, hmin, hmax] at h
  omega
theorem cells3 : Try.prog.cellsOf 3 = 1 := by kernel_rfl
theorem bytes3 : Try.prog.bytesOf 3 = 8 := by kernel_rfl
set_option maxRecDepth 100000 in
theorem spaceBack_contract {H : Type} {enc : TypeId × Value → H} (W : World) (args : List Value) (ds : List (DataW H)) (p : List MemPlace)
    (hval : ∀ (j : Nat) t v, Try.f4.params.toList[j]? = some t → args[j]? = some v → ∃ base, Value.okWide Try.prog W .any base t v)
    (hA : DataW.TrodAll enc Try.prog W 0 (fun _ => true) true Try.f4.params.toList args ds p)
    (hsz : (DataW.weightsEach Try.prog Try.f4.params.toList ds).all (· ≤ reachBytes) = true) :
    Calls Try.prog 4 args.toArray W fun e W' => e = .returned (.bool true) ∧ Below W.heap.size W W' := by
  rw [Try.params4] at hA hval hsz
  obtain ⟨v0, vs0, d0, ds0, p0, q0, rfl, rfl, rfl, h0, r0⟩ := trodAll_cons hA
  obtain ⟨v1, vs1, d1, ds1, p1, q1, rfl, rfl, rfl, h1, r1⟩ := trodAll_cons r0
  obtain ⟨v2, vs2, d2, ds2, p2, q2, rfl, rfl, rfl, h2, r2⟩ := trodAll_cons r1
  obtain ⟨v3, vs3, d3, ds3, p3, q3, rfl, rfl, rfl, h3, r3⟩ := trodAll_cons r2
  obtain ⟨rfl, rfl, rfl⟩ := trodAll_nil r3
  obtain ⟨b0, o0⟩ := hval 0 23 v0 rfl rfl
  obtain ⟨b1, o1⟩ := hval 1 24 v1 rfl rfl
  obtain ⟨b2, o2⟩ := hval 2 25 v2 rfl rfl
  obtain ⟨b3, o3⟩ := hval 3 25 v3 rfl rfl
  obtain ⟨cs0, rfl, hs0, hx0⟩ := open_nums Try.underlying23 (by kernel_rfl) (by kernel_rfl) geo_fields o0 h0
  obtain ⟨g, rfl⟩ := geo_of hs0 hx0
  obtain ⟨A1, n1, c1, f1, rfl, hnc1, hcm1, hby1, ha1, hn1, wf1⟩ := open_i64s Try.underlying24 Try.underlying3 cells3 o1 h1 (j := 1) rfl rfl hsz
  rw [bytes3] at hby1
  simp only [reachBytes] at hby1
  obtain ⟨A2, n2, c2, D, rfl, hn2, hd2⟩ := open_deeds o2 h2 (j := 2) rfl rfl hsz
  obtain ⟨A3, n3, c3, D2, rfl, hn3, hd3⟩ := open_deeds o3 h3 (j := 3) rfl rfl hsz
  exact back4 g f1 A1 n1 c1 A2 n2 c2 D A3 n3 c3 D2 W (by omega) hn2 hn3 ha1 hd2 hd3
set_option maxRecDepth 100000 in
theorem spaceBack_lifted (os : Os) (started : os.Started) (H : Type) (enc : TypeId × Value → H) :
    ReturnsInHanded {} Try.checked os 4 .any (Rows.spaceBackSpec.pre6 enc Try.prog Try.f4 Rows.spaceBackRow.domain false) (Rows.spaceBackSpec.post enc Try.prog Try.f4 false true false false) :=
  law_lifted (C := Try.checked) own started (by kernel_rfl) Try.func4
    (ChangeSpec.witness6 (enc := enc) (C := Try.checked) false ⟨#[], #[.agg #[.int .i64 0, .int .i64 0, .int .i64 0, .int .i64 0, .int .i64 0], .slice none 0 0, .slice none 0 0, .slice none 0 0], []⟩ 8 (by kernel_rfl) (by kernel_rfl) (by kernel_rfl) (by kernel_rfl))
    laidOut (by kernel_rfl) rfl rfl Try.underlying4 (fun ds h => by match ds, h with | [_, _, _, _], _ => rfl) (fun W args ds p h1 h2 h3 => spaceBack_contract W args ds p h1 h2 h3)
theorem spaceBack_over : Rows.spaceBackRow.holds Try.pinned (OpenSpec.ofChange Rows.spaceBackSpec) :=
  OpenClaim.holds_of_wide 4 Try.f4 rfl rfl rfl rfl rfl rfl rfl ⟨rfl, rfl, rfl, rfl, rfl⟩ rfl rfl rfl rfl rfl (by kernel_rfl) Try.func4 (by kernel_rfl)
    (of_decide_eq_true (by kernel_rfl)) (by unfold Func.isWrapper; rw [if_neg (of_decide_eq_false (by kernel_rfl))]; exact ⟨rfl, rfl⟩)
    (fun os started H enc _ => spaceBack_lifted os started H enc)
/-- The statement SpaceBack. -/
theorem spaceBack_holds : Rows.SpaceBackSaid := spaceBack_over
#print axioms spaceBack_holds
end Go.Proofs.Ytgoblbmekhcekaa
