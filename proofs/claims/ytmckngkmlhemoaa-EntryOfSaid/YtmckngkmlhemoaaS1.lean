/- The given statements of layer 14 (entry): for every input the law returns true, and what lay before the call lies as it lay. No condition. -/
import Derived.Test.YtmckngkmlhemoaaLaw
import Derived.Test.YtmckngkmlhemoaaD
import Derived.Test.YtmckngkmlhemoaaT
import Derived.Test.YtmckngkmlhemoaaRows
namespace Go.Proofs.Ytmckngkmlhemoaa
open Go.RowKit Go.ChangeShapes Go.WideShapes Go.ChangeAt
theorem own : ownKnob Try.prog.godebug = none := by kernel_rfl
theorem laidOut : laidOutB Try.prog = true := by kernel_rfl
theorem bounds64 {x : Int} (h : (Lit.int .i64 x).wf = true) : -9223372036854775808 ≤ x ∧ x ≤ 9223372036854775807 := by
  have hmin : IntKind.i64.min = -9223372036854775808 := rfl
  have hmax : IntKind.i64.max = 9223372036854775807 := rfl
  simp only [Lit.wf, Bool.and_eq_true, decide_eq_true_eq, hmin, hmax] at h
  omega
section
variable {H : Type} {enc : TypeId × Value → H} {P : Program} {W : World} {base : Nat} {spare : Nat → Bool} {held : Bool}
/-- An argument that is an array of numbers, however deep. -/
theorem open_row {t e : TypeId} {n : Nat} {ks : List IntKind} {d : Nat} {v : Value} {dd : DataW H} {ps : List MemPlace} {b0 : Nat} (hs : P.underlying t = some (.array n e)) (hl : leafs P d t = some ks) (hok : Value.okWide P W .any b0 t v) (h : DataW.Trod enc P W base spare held t v dd ps) :
    ∃ cs : Array Value, v = .agg cs ∧ Fits cs.toList ks := by
  simp only [Value.okWide, hs] at hok
  obtain ⟨cs, rfl, _⟩ := hok
  obtain ⟨fuel, hf⟩ := h
  exact ⟨cs, rfl, trod_fits d t ks hl hf⟩
end
set_option maxRecDepth 100000 in
theorem entryOf_contract {H : Type} {enc : TypeId × Value → H} (W : World) (args : List Value) (ds : List (DataW H)) (p : List MemPlace)
    (hval : ∀ (j : Nat) t v, Try.f3.params.toList[j]? = some t → args[j]? = some v → ∃ base, Value.okWide Try.prog W .any base t v)
    (hA : DataW.TrodAll enc Try.prog W 0 (fun _ => true) true Try.f3.params.toList args ds p)
    (hsz : (DataW.weightsEach Try.prog Try.f3.params.toList ds).all (· ≤ reachBytes) = true) :
    Calls Try.prog 3 args.toArray W fun e W' => e = .returned (.bool true) ∧ Below W.heap.size W W' := by
  rw [Try.params3] at hA hval hsz
  obtain ⟨v0, vs0, d0, ds0, p0, q0, rfl, rfl, rfl, h0, r0⟩ := trodAll_cons hA
  obtain ⟨rfl, rfl, rfl⟩ := trodAll_nil r0
  obtain ⟨b0, o0⟩ := hval 0 30 v0 rfl rfl
  obtain ⟨cs0, rfl, fit0⟩ := open_deep Try.underlying30 leafs30 o0 h0
  obtain ⟨i0, ok0, e0⟩ := item_of_fits fit0
  obtain rfl : cs0 = i0.cells.toArray := by rw [← e0]
  exact law3 i0 ok0 W
set_option maxRecDepth 100000 in
theorem entryOf_lifted (os : Os) (started : os.Started) (H : Type) (enc : TypeId × Value → H) :
    ReturnsInHanded {} Try.checked os 3 .any (Rows.entryOfSpec.pre6 enc Try.prog Try.f3 Rows.entryOfRow.domain false) (Rows.entryOfSpec.post enc Try.prog Try.f3 false true false false) :=
  law_lifted (C := Try.checked) own started (by kernel_rfl) Try.func3
    (ChangeSpec.witness6 (enc := enc) (C := Try.checked) false ⟨#[], #[.agg (zI 0).toArray], []⟩ 8 (by kernel_rfl) (by kernel_rfl) (by kernel_rfl) (by kernel_rfl))
    laidOut (by kernel_rfl) rfl rfl Try.underlying4 (fun ds h => by match ds, h with | [_], _ => rfl) (fun W args ds p h1 h2 h3 => entryOf_contract W args ds p h1 h2 h3)
theorem entryOf_over : Rows.entryOfRow.holds Try.pinned (OpenSpec.ofChange Rows.entryOfSpec) :=
  OpenClaim.holds_of_wide 3 Try.f3 rfl rfl rfl rfl rfl rfl rfl ⟨rfl, rfl, rfl, rfl, rfl⟩ rfl rfl rfl rfl rfl (by kernel_rfl) Try.func3 (by kernel_rfl)
    (of_decide_eq_true (by kernel_rfl)) (by unfold Func.isWrapper; rw [if_neg (of_decide_eq_false (by kernel_rfl))]; exact ⟨rfl, rfl⟩)
    (fun os started H enc _ => entryOf_lifted os started H enc)
/-- The statement EntryOf. -/
theorem entryOf_holds : Rows.EntryOfSaid := entryOf_over
#print axioms entryOf_holds
set_option maxRecDepth 100000 in
theorem entryItem_contract {H : Type} {enc : TypeId × Value → H} (W : World) (args : List Value) (ds : List (DataW H)) (p : List MemPlace)
    (hval : ∀ (j : Nat) t v, Try.f4.params.toList[j]? = some t → args[j]? = some v → ∃ base, Value.okWide Try.prog W .any base t v)
    (hA : DataW.TrodAll enc Try.prog W 0 (fun _ => true) true Try.f4.params.toList args ds p)
    (hsz : (DataW.weightsEach Try.prog Try.f4.params.toList ds).all (· ≤ reachBytes) = true) :
    Calls Try.prog 4 args.toArray W fun e W' => e = .returned (.bool true) ∧ Below W.heap.size W W' := by
  rw [Try.params4] at hA hval hsz
  obtain ⟨v0, vs0, d0, ds0, p0, q0, rfl, rfl, rfl, h0, r0⟩ := trodAll_cons hA
  obtain ⟨rfl, rfl, rfl⟩ := trodAll_nil r0
  obtain ⟨b0, o0⟩ := hval 0 35 v0 rfl rfl
  obtain ⟨cs0, rfl, fit0⟩ := open_deep Try.underlying35 leafs35 o0 h0
  obtain ⟨e0, ok0, q0⟩ := ent_of_fits fit0
  obtain rfl : cs0 = e0.cells.toArray := by rw [← q0]
  exact law4 e0 ok0 W
set_option maxRecDepth 100000 in
theorem entryItem_lifted (os : Os) (started : os.Started) (H : Type) (enc : TypeId × Value → H) :
    ReturnsInHanded {} Try.checked os 4 .any (Rows.entryItemSpec.pre6 enc Try.prog Try.f4 Rows.entryItemRow.domain false) (Rows.entryItemSpec.post enc Try.prog Try.f4 false true false false) :=
  law_lifted (C := Try.checked) own started (by kernel_rfl) Try.func4
    (ChangeSpec.witness6 (enc := enc) (C := Try.checked) false ⟨#[], #[.agg zE.toArray], []⟩ 8 (by kernel_rfl) (by kernel_rfl) (by kernel_rfl) (by kernel_rfl))
    laidOut (by kernel_rfl) rfl rfl Try.underlying4 (fun ds h => by match ds, h with | [_], _ => rfl) (fun W args ds p h1 h2 h3 => entryItem_contract W args ds p h1 h2 h3)
theorem entryItem_over : Rows.entryItemRow.holds Try.pinned (OpenSpec.ofChange Rows.entryItemSpec) :=
  OpenClaim.holds_of_wide 4 Try.f4 rfl rfl rfl rfl rfl rfl rfl ⟨rfl, rfl, rfl, rfl, rfl⟩ rfl rfl rfl rfl rfl (by kernel_rfl) Try.func4 (by kernel_rfl)
    (of_decide_eq_true (by kernel_rfl)) (by unfold Func.isWrapper; rw [if_neg (of_decide_eq_false (by kernel_rfl))]; exact ⟨rfl, rfl⟩)
    (fun os started H enc _ => entryItem_lifted os started H enc)
/-- The statement EntryItem. -/
theorem entryItem_holds : Rows.EntryItemSaid := entryItem_over
#print axioms entryItem_holds
set_option maxRecDepth 100000 in
theorem entryCompare_contract {H : Type} {enc : TypeId × Value → H} (W : World) (args : List Value) (ds : List (DataW H)) (p : List MemPlace)
    (hval : ∀ (j : Nat) t v, Try.f5.params.toList[j]? = some t → args[j]? = some v → ∃ base, Value.okWide Try.prog W .any base t v)
    (hA : DataW.TrodAll enc Try.prog W 0 (fun _ => true) true Try.f5.params.toList args ds p)
    (hsz : (DataW.weightsEach Try.prog Try.f5.params.toList ds).all (· ≤ reachBytes) = true) :
    Calls Try.prog 5 args.toArray W fun e W' => e = .returned (.bool true) ∧ Below W.heap.size W W' := by
  rw [Try.params5] at hA hval hsz
  obtain ⟨v0, vs0, d0, ds0, p0, q0, rfl, rfl, rfl, h0, r0⟩ := trodAll_cons hA
  obtain ⟨v1, vs1, d1, ds1, p1, q1, rfl, rfl, rfl, h1, r1⟩ := trodAll_cons r0
  obtain ⟨rfl, rfl, rfl⟩ := trodAll_nil r1
  obtain ⟨b0, o0⟩ := hval 0 32 v0 rfl rfl
  obtain ⟨b1, o1⟩ := hval 1 32 v1 rfl rfl
  obtain ⟨cs0, rfl, fit0⟩ := open_row Try.underlying32 leafs32 o0 h0
  obtain ⟨k0, ok0, q0⟩ := u8l_of_fits (n := 40) fit0
  obtain rfl : cs0 = (u8l k0).toArray := by rw [← q0]
  obtain ⟨cs1, rfl, fit1⟩ := open_row Try.underlying32 leafs32 o1 h1
  obtain ⟨k1, ok1, q1⟩ := u8l_of_fits (n := 40) fit1
  obtain rfl : cs1 = (u8l k1).toArray := by rw [← q1]
  exact law5 k0 k1 ok0 ok1 W
set_option maxRecDepth 100000 in
theorem entryCompare_lifted (os : Os) (started : os.Started) (H : Type) (enc : TypeId × Value → H) :
    ReturnsInHanded {} Try.checked os 5 .any (Rows.entryCompareSpec.pre6 enc Try.prog Try.f5 Rows.entryCompareRow.domain false) (Rows.entryCompareSpec.post enc Try.prog Try.f5 false true false false) :=
  law_lifted (C := Try.checked) own started (by kernel_rfl) Try.func5
    (ChangeSpec.witness6 (enc := enc) (C := Try.checked) false ⟨#[], #[.agg (zb 40).toArray, .agg (zb 40).toArray], []⟩ 8 (by kernel_rfl) (by kernel_rfl) (by kernel_rfl) (by kernel_rfl))
    laidOut (by kernel_rfl) rfl rfl Try.underlying4 (fun ds h => by match ds, h with | [_, _], _ => rfl) (fun W args ds p h1 h2 h3 => entryCompare_contract W args ds p h1 h2 h3)
theorem entryCompare_over : Rows.entryCompareRow.holds Try.pinned (OpenSpec.ofChange Rows.entryCompareSpec) :=
  OpenClaim.holds_of_wide 5 Try.f5 rfl rfl rfl rfl rfl rfl rfl ⟨rfl, rfl, rfl, rfl, rfl⟩ rfl rfl rfl rfl rfl (by kernel_rfl) Try.func5 (by kernel_rfl)
    (of_decide_eq_true (by kernel_rfl)) (by unfold Func.isWrapper; rw [if_neg (of_decide_eq_false (by kernel_rfl))]; exact ⟨rfl, rfl⟩)
    (fun os started H enc _ => entryCompare_lifted os started H enc)
/-- The statement EntryCompare. -/
theorem entryCompare_holds : Rows.EntryCompareSaid := entryCompare_over
#print axioms entryCompare_holds
end Go.Proofs.Ytmckngkmlhemoaa
