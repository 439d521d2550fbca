/- An argument that is a row of pieces (layer 3, bitio), opened. -/
import Derived.Test.YtkkjcbakgjabdaaH
import Derived.Test.YtkkjcbakgjabdaaOpenS
namespace Go.Proofs.Ytkkjcbakgjabdaa
open Go.RowKit Go.ChangeShapes Go.WideShapes Go.Deep
set_option maxRecDepth 100000 in
theorem one44 {H : Type} {enc : TypeId × Value → H} {W : World} {base : Nat} {v : Value} {d : DataW H} {ps : List MemPlace}
    (hok : Value.okWide Try.prog W .any base 38 v) (h : DataW.Trod enc Try.prog W 0 (fun _ => true) true 38 v d ps) {ts : List TypeId} {ds : List (DataW H)} {j : Nat} (h1 : ts[j]? = some 38) (h2 : ds[j]? = some d)
    (hsz : (DataW.weightsEach Try.prog ts ds).all (· ≤ reachBytes) = true) :
    ∃ (A : Option Addr) (n c : Nat) (g : Pc), v = .slice A n c ∧ n ≤ c ∧ c ≤ maxLen ∧ Pcs W W.heap.size A n g ∧ (A = none → n = 0 ∧ c = 0) ∧ g.Ok n := by
  obtain ⟨A, n, c, F, rfl, hnc, hcm, _, hnn, hcell, hf⟩ := open_structs Try.underlying38 Try.underlying44 (by kernel_rfl) (by kernel_rfl) (Nat.zero_lt_succ 2) hok h h1 h2 hsz
  have hx : ∀ i, i < n → (∃ x : Nat, F i 0 = .int .u32 x ∧ x < 4294967296) ∧ (∃ x : Int, F i 1 = .int .i64 x ∧ -9223372036854775808 ≤ x ∧ x ≤ 9223372036854775807) ∧ (∃ b : Bool, F i 2 = .bool b) := by
    intro i hi
    obtain ⟨f0, y0, e0⟩ := hf i hi 0 _ rfl
    obtain ⟨f1, y1, e1⟩ := hf i hi 1 _ rfl
    obtain ⟨f2, y2, e2⟩ := hf i hi 2 _ rfl
    obtain ⟨x0, c0, _, w0⟩ := DataW.trod_int Try.underlying31 e0
    obtain ⟨x1, c1, _, w1⟩ := DataW.trod_int Try.underlying3 e1
    obtain ⟨x2, c2, _⟩ := DataW.trod_bool Try.underlying4 e2
    injection c0 with c0
    injection c1 with c1
    injection c2 with c2
    have b0 := bounds_u32 w0
    refine ⟨⟨x0.toNat, by rw [c0]; congr 1; omega, by omega⟩, ⟨x1, c1, ?_⟩, ⟨x2, c2⟩⟩
    simp [Lit.wf, IntKind.min, IntKind.max, IntKind.signed, IntKind.bits] at w1
    omega
  refine ⟨A, n, c, ⟨fun i => match F i 0 with | .int _ x => x.toNat | _ => 0, fun i => match F i 1 with | .int _ x => x | _ => 0, fun i => match F i 2 with | .bool b => b | _ => false⟩, rfl, hnc, hcm, fun h0 => ?_, hnn, fun i hi => ?_⟩
  · obtain ⟨b, off, e, hb, hc⟩ := hcell h0
    refine ⟨b, off, e, hb, fun i hi => ?_⟩
    obtain ⟨⟨x0, e0, _⟩, ⟨x1, e1, _⟩, ⟨x2, e2⟩⟩ := hx i hi
    have k0 := hc i hi 0 (show 0 < 3 by omega)
    have k1 := hc i hi 1 (show 1 < 3 by omega)
    have k2 := hc i hi 2 (show 2 < 3 by omega)
    rw [e0] at k0
    rw [e1] at k1
    rw [e2] at k2
    refine ⟨?_, ?_, ?_⟩
    · simp only [e0, Int.toNat_natCast]; exact k0
    · simp only [e1]; exact k1
    · simp only [e2]; exact k2
  · obtain ⟨⟨x0, e0, h0⟩, ⟨x1, e1, h1, h2⟩, _⟩ := hx i hi
    simp only [e0, e1, Int.toNat_natCast]
    exact ⟨h0, h1, h2⟩
end Go.Proofs.Ytkkjcbakgjabdaa
