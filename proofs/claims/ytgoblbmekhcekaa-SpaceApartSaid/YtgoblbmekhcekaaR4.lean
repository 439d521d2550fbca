/- The given statements of layer 19 (space): for every input the law returns true, and what lay before the call lies as it lay. No condition. -/
import Derived.Test.YtgoblbmekhcekaaLaw
import Derived.Test.YtgoblbmekhcekaaO
import Derived.Test.YtgoblbmekhcekaaS
import Derived.Test.YtgoblbmekhcekaaRows
namespace Go.Proofs.Ytgoblbmekhcekaa
open Go.RowKit Go.ChangeShapes Go.WideShapes Go.ChangeAt
theorem own : ownKnob Try.prog.godebug = none := by kernel_rfl
theorem laidOut : laidOutB Try.prog = true := by kernel_rfl
theorem bounds64 {x : Int} (h : (Lit.int .i64 x).wf = true) : -9223372036854775808 ≤ x ∧ x ≤ 9223372036854775807 := by
  have hmin : IntKind.i64.min = -9223372036854775808 := rfl
  have hmax : IntKind.i64.max = 9223372036854775807 := rfl
  simp only [Lit.wf, Bool.and_eq_true, decide_eq_true_eq, hmin, hmax] at h
  omega
theorem cells3 : Try.prog.cellsOf 3 = 1 := by kernel_rfl
theorem bytes3 : Try.prog.bytesOf 3 = 8 := by kernel_rfl
set_option maxRecDepth 100000 in
theorem spaceApart_contract {H : Type} {enc : TypeId × Value → H} (W : World) (args : List Value) (ds : List (DataW H)) (p : List MemPlace)
    (hval : ∀ (j : Nat) t v, Try.f3.params.toList[j]? = some t → args[j]? = some v → ∃ base, Value.okWide Try.prog W .any base t v)
    (hA : DataW.TrodAll enc Try.prog W 0 (fun _ => true) true Try.f3.params.toList args ds p)
    (hsz : (DataW.weightsEach Try.prog Try.f3.params.toList ds).all (· ≤ reachBytes) = true) :
    Calls Try.prog 3 args.toArray W fun e W' => e = .returned (.bool true) ∧ Below W.heap.size W W' := by
  rw [Try.params3] at hA hval hsz
  obtain ⟨v0, vs0, d0, ds0, p0, q0, rfl, rfl, rfl, h0, r0⟩ := trodAll_cons hA
  obtain ⟨v1, vs1, d1, ds1, p1, q1, rfl, rfl, rfl, h1, r1⟩ := trodAll_cons r0
  obtain ⟨v2, vs2, d2, ds2, p2, q2, rfl, rfl, rfl, h2, r2⟩ := trodAll_cons r1
  obtain ⟨rfl, rfl, rfl⟩ := trodAll_nil r2
  obtain ⟨b0, o0⟩ := hval 0 23 v0 rfl rfl
  obtain ⟨b1, o1⟩ := hval 1 24 v1 rfl rfl
  obtain ⟨b2, o2⟩ := hval 2 25 v2 rfl rfl
  obtain ⟨cs0, rfl, hs0, hx0⟩ := open_nums Try.underlying23 (by kernel_rfl) (by kernel_rfl) geo_fields o0 h0
  obtain ⟨g, rfl⟩ := geo_of hs0 hx0
  obtain ⟨A1, n1, c1, f1, rfl, hnc1, hcm1, hby1, ha1, hn1, wf1⟩ := open_i64s Try.underlying24 Try.underlying3 cells3 o1 h1 (j := 1) rfl rfl hsz
  rw [bytes3] at hby1
  simp only [reachBytes] at hby1
  obtain ⟨A2, n2, c2, D, rfl, hn2, hd2⟩ := open_deeds o2 h2 (j := 2) rfl rfl hsz
  exact apart3 g f1 A1 n1 c1 A2 n2 c2 D W (by omega) hn2 ha1 hd2
set_option maxRecDepth 100000 in
theorem spaceApart_lifted (os : Os) (started : os.Started) (H : Type) (enc : TypeId × Value → H) :
    ReturnsInHanded {} Try.checked os 3 .any (Rows.spaceApartSpec.pre6 enc Try.prog Try.f3 Rows.spaceApartRow.domain false) (Rows.spaceApartSpec.post enc Try.prog Try.f3 false true false false) :=
  law_lifted (C := Try.checked) own started (by kernel_rfl) Try.func3
    (ChangeSpec.witness6 (enc := enc) (C := Try.checked) false ⟨#[], #[.agg #[.int .i64 0, .int .i64 0, .int .i64 0, .int .i64 0, .int .i64 0], .slice none 0 0, .slice none 0 0], []⟩ 8 (by kernel_rfl) (by kernel_rfl) (by kernel_rfl) (by kernel_rfl))
    laidOut (by kernel_rfl) rfl rfl Try.underlying4 (fun ds h => by match ds, h with | [_, _, _], _ => rfl) (fun W args ds p h1 h2 h3 => spaceApart_contract W args ds p h1 h2 h3)
theorem spaceApart_over : Rows.spaceApartRow.holds Try.pinned (OpenSpec.ofChange Rows.spaceApartSpec) :=
  OpenClaim.holds_of_wide 3 Try.f3 rfl rfl rfl rfl rfl rfl rfl ⟨rfl, rfl, rfl, rfl, rfl⟩ rfl rfl rfl rfl rfl (by kernel_rfl) Try.func3 (by kernel_rfl)
    (of_decide_eq_true (by kernel_rfl)) (by unfold Func.isWrapper; rw [if_neg (of_decide_eq_false (by kernel_rfl))]; exact ⟨rfl, rfl⟩)
    (fun os started H enc _ => spaceApart_lifted os started H enc)
/-- The statement SpaceApart. -/
theorem spaceApart_holds : Rows.SpaceApartSaid := spaceApart_over
#print axioms spaceApart_holds
end Go.Proofs.Ytgoblbmekhcekaa
