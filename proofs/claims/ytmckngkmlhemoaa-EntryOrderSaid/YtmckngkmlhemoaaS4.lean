/- The given statements of layer 14 (entry): for every input the law returns true, and what lay before the call lies as it lay. No condition. -/
import Derived.Test.YtmckngkmlhemoaaLaw
import Derived.Test.YtmckngkmlhemoaaD
import Derived.Test.YtmckngkmlhemoaaX
import Derived.Test.YtmckngkmlhemoaaRows
namespace Go.Proofs.Ytmckngkmlhemoaa
open Go.RowKit Go.ChangeShapes Go.WideShapes Go.ChangeAt
theorem own : ownKnob Try.prog.godebug = none := by kernel_rfl
theorem laidOut : laidOutB Try.prog = true := by kernel_rfl
theorem bounds64 {x : Int} (h : (Lit.int .i64 x).wf = true) : -9223372036854775808 ≤ x ∧ x ≤ 9223372036854775807 := by
  have hmin : IntKind.i64.min = -9223372036854775808 := rfl
  have hmax : IntKind.i64.max = 9223372036854775807 := rfl
  simp only [Lit.wf, Bool.and_eq_true, decide_eq_true_eq, hmin, hmax] at h
  omega
section
variable {H : Type} {enc : TypeId × Value → H} {P : Program} {W : World} {base : Nat} {spare : Nat → Bool} {held : Bool}
/-- An argument that is an array of numbers, however deep. -/
theorem open_row {t e : TypeId} {n : Nat} {ks : List IntKind} {d : Nat} {v : Value} {dd : DataW H} {ps : List MemPlace} {b0 : Nat} (hs : P.underlying t = some (.array n e)) (hl : leafs P d t = some ks) (hok : Value.okWide P W .any b0 t v) (h : DataW.Trod enc P W base spare held t v dd ps) :
    ∃ cs : Array Value, v = .agg cs ∧ Fits cs.toList ks := by
  simp only [Value.okWide, hs] at hok
  obtain ⟨cs, rfl, _⟩ := hok
  obtain ⟨fuel, hf⟩ := h
  exact ⟨cs, rfl, trod_fits d t ks hl hf⟩
end
set_option maxRecDepth 100000 in
theorem entryOrder_contract {H : Type} {enc : TypeId × Value → H} (W : World) (args : List Value) (ds : List (DataW H)) (p : List MemPlace)
    (hval : ∀ (j : Nat) t v, Try.f8.params.toList[j]? = some t → args[j]? = some v → ∃ base, Value.okWide Try.prog W .any base t v)
    (hA : DataW.TrodAll enc Try.prog W 0 (fun _ => true) true Try.f8.params.toList args ds p)
    (hsz : (DataW.weightsEach Try.prog Try.f8.params.toList ds).all (· ≤ reachBytes) = true) :
    Calls Try.prog 8 args.toArray W fun e W' => e = .returned (.bool true) ∧ Below W.heap.size W W' := by
  rw [Try.params8] at hA hval hsz
  obtain ⟨v0, vs0, d0, ds0, p0, q0, rfl, rfl, rfl, h0, r0⟩ := trodAll_cons hA
  obtain ⟨v1, vs1, d1, ds1, p1, q1, rfl, rfl, rfl, h1, r1⟩ := trodAll_cons r0
  obtain ⟨v2, vs2, d2, ds2, p2, q2, rfl, rfl, rfl, h2, r2⟩ := trodAll_cons r1
  obtain ⟨v3, vs3, d3, ds3, p3, q3, rfl, rfl, rfl, h3, r3⟩ := trodAll_cons r2
  obtain ⟨v4, vs4, d4, ds4, p4, q4, rfl, rfl, rfl, h4, r4⟩ := trodAll_cons r3
  obtain ⟨rfl, rfl, rfl⟩ := trodAll_nil r4
  obtain ⟨b0, o0⟩ := hval 0 32 v0 rfl rfl
  obtain ⟨b1, o1⟩ := hval 1 32 v1 rfl rfl
  obtain ⟨b2, o2⟩ := hval 2 32 v2 rfl rfl
  obtain ⟨b3, o3⟩ := hval 3 30 v3 rfl rfl
  obtain ⟨b4, o4⟩ := hval 4 30 v4 rfl rfl
  obtain ⟨cs0, rfl, fit0⟩ := open_row Try.underlying32 leafs32 o0 h0
  obtain ⟨k0, ok0, q0⟩ := u8l_of_fits (n := 40) fit0
  obtain rfl : cs0 = (u8l k0).toArray := by rw [← q0]
  obtain ⟨cs1, rfl, fit1⟩ := open_row Try.underlying32 leafs32 o1 h1
  obtain ⟨k1, ok1, q1⟩ := u8l_of_fits (n := 40) fit1
  obtain rfl : cs1 = (u8l k1).toArray := by rw [← q1]
  obtain ⟨cs2, rfl, fit2⟩ := open_row Try.underlying32 leafs32 o2 h2
  obtain ⟨k2, ok2, q2⟩ := u8l_of_fits (n := 40) fit2
  obtain rfl : cs2 = (u8l k2).toArray := by rw [← q2]
  obtain ⟨cs3, rfl, fit3⟩ := open_deep Try.underlying30 leafs30 o3 h3
  obtain ⟨i3, ok3, e3⟩ := item_of_fits fit3
  obtain rfl : cs3 = i3.cells.toArray := by rw [← e3]
  obtain ⟨cs4, rfl, fit4⟩ := open_deep Try.underlying30 leafs30 o4 h4
  obtain ⟨i4, ok4, e4⟩ := item_of_fits fit4
  obtain rfl : cs4 = i4.cells.toArray := by rw [← e4]
  exact law8 k0 k1 k2 i3 i4 ok0 ok1 ok2 ok3 ok4 W
set_option maxRecDepth 100000 in
theorem entryOrder_lifted (os : Os) (started : os.Started) (H : Type) (enc : TypeId × Value → H) :
    ReturnsInHanded {} Try.checked os 8 .any (Rows.entryOrderSpec.pre6 enc Try.prog Try.f8 Rows.entryOrderRow.domain false) (Rows.entryOrderSpec.post enc Try.prog Try.f8 false true false false) :=
  law_lifted (C := Try.checked) own started (by kernel_rfl) Try.func8
    (ChangeSpec.witness6 (enc := enc) (C := Try.checked) false ⟨#[], #[.agg (zb 40).toArray, .agg (zb 40).toArray, .agg (zb 40).toArray, .agg (zI 0).toArray, .agg (zI 0).toArray], []⟩ 8 (by kernel_rfl) (by kernel_rfl) (by kernel_rfl) (by kernel_rfl))
    laidOut (by kernel_rfl) rfl rfl Try.underlying4 (fun ds h => by match ds, h with | [_, _, _, _, _], _ => rfl) (fun W args ds p h1 h2 h3 => entryOrder_contract W args ds p h1 h2 h3)
theorem entryOrder_over : Rows.entryOrderRow.holds Try.pinned (OpenSpec.ofChange Rows.entryOrderSpec) :=
  OpenClaim.holds_of_wide 8 Try.f8 rfl rfl rfl rfl rfl rfl rfl ⟨rfl, rfl, rfl, rfl, rfl⟩ rfl rfl rfl rfl rfl (by kernel_rfl) Try.func8 (by kernel_rfl)
    (of_decide_eq_true (by kernel_rfl)) (by unfold Func.isWrapper; rw [if_neg (of_decide_eq_false (by kernel_rfl))]; exact ⟨rfl, rfl⟩)
    (fun os started H enc _ => entryOrder_lifted os started H enc)
/-- The statement EntryOrder. -/
theorem entryOrder_holds : Rows.EntryOrderSaid := entryOrder_over
#print axioms entryOrder_holds
end Go.Proofs.Ytmckngkmlhemoaa
