/- Arguments opened: what a law's walk asks of each. -/
import Derived.Test.YtodhaaaodmcplaaGreatArr
import Derived.ChangeSlices
import Derived.ProofKit
import Derived.OpenShut
import Derived.SizedLaws
import Derived.Deep.Fields
set_option linter.all false
namespace Go.Proofs.YtodhaaaodmcplaaGreat
open Go.RowKit Go.ChangeShapes Go.WideShapes
section
variable {H : Type} {enc : TypeId × Value → H} {P : Program} {W : World}
theorem open_i64s {t e : TypeId} {k : IntKind} {v : Value} {d : DataW H} {ps : List MemPlace} {base : Nat} (ht : P.underlying t = some (.slice e)) (he : P.underlying e = some (.int k)) (hc : P.cellsOf e = 1)
    (hok : Value.okWide P W .any base t v) (h : DataW.Trod enc P W 0 (fun _ => true) true t v d ps) {ts : List TypeId} {ds : List (DataW H)} {j : Nat} (h1 : ts[j]? = some t) (h2 : ds[j]? = some d)
    (hsz : (DataW.weightsEach P ts ds).all (· ≤ reachBytes) = true) :
    ∃ (A : Option Addr) (n c : Nat) (f : Nat → Int), v = .slice A n c ∧ n ≤ c ∧ c ≤ maxLen ∧ c * P.bytesOf e ≤ reachBytes ∧ Arr W W.heap.size A n (fun j => .int k (f j)) ∧ (A = none → n = 0 ∧ c = 0) ∧ ∀ j, j < n → (Lit.int k (f j)).wf = true := by
  obtain ⟨a0, len, cap, rfl⟩ := okWide_slice ht hok
  obtain ⟨fuel, hf⟩ := h
  rcases open_ints ht he hc hf with ⟨hcs, hx⟩ | ⟨a, len', cap', zs, hcs, _, hl, hm, hz, hx, hcell, hwz⟩
  · simp [Value.cells] at hcs
    obtain ⟨rfl, rfl, rfl⟩ := hcs
    exact ⟨none, 0, 0, fun _ => 0, rfl, Nat.le_refl _, Nat.zero_le _, by simp, fun h => absurd h (by omega), fun _ => ⟨rfl, rfl⟩, fun j hj => absurd hj (by omega)⟩
  · simp [Value.cells] at hcs
    obtain ⟨rfl, rfl, rfl⟩ := hcs
    simp at hz
    have hd : d = .slice (lits k (zs.take len)) (lits k (zs.drop len)) := congrArg Prod.fst hx
    have hs := sized_slice hsz h1 (h2.trans (congrArg some hd)) ht
    simp only [lits, List.length_map, List.length_take, List.length_drop] at hs
    refine ⟨some a, len, cap, fun j => zs.getD j 0, rfl, hl, hm, ?_, fun hpos => ?_, fun h => (by cases h), fun j hj => hwz _ ?_⟩
    · rw [show min len zs.length + (zs.length - len) = cap from by omega] at hs
      exact hs
    · obtain ⟨b, off, rfl, hc'⟩ := ints_at hcell (by omega)
      refine ⟨b, off, rfl, ?_, fun j hj => hc' j (by omega)⟩
      have := hc' 0 (by omega)
      rcases Nat.lt_or_ge b W.heap.size with h | h
      · exact h
      · simp [World.cell?, Array.getElem?_eq_none h] at this
    · show zs.getD j 0 ∈ zs
      rw [List.getD_eq_getElem?_getD, List.getElem?_eq_getElem (by omega)]
      exact List.getElem_mem _
/-- A struct by value whose fields are numbers of one kind. -/
theorem open_nums {t : TypeId} {fs : Array Field} {k : IntKind} {v : Value} {d : DataW H} {ps : List MemPlace} {base : Nat} (ht : P.underlying t = some (.struct fs)) (hone : Go.Deep.oneCellFields P fs = true) (hC : P.cellsOf t = fs.size)
    (hk : ∀ (i : Nat) (f : Field), fs[i]? = some f → P.underlying f.type = some (.int k))
    (hok : Value.okWide P W .any base t v) (h : DataW.Trod enc P W 0 (fun _ => true) true t v d ps) :
    ∃ cs : Array Value, v = .agg cs ∧ cs.size = fs.size ∧ ∀ i, i < fs.size → ∃ x : Int, cs[i]? = some (.int k x) ∧ (Lit.int k x).wf = true := by
  obtain ⟨cs, rfl, hsz⟩ := okWide_struct ht hok
  obtain ⟨fuel, hf⟩ := h
  obtain ⟨xs, n, _, _, _, hlen, hg⟩ := DataW.trod_struct ht hf
  refine ⟨cs, rfl, by rw [hsz, hC], fun i hi => ?_⟩
  have hfi : fs[i]? = some fs[i] := Array.getElem?_eq_getElem hi
  obtain ⟨ho, hc⟩ := Go.Deep.hone_of hone i _ hfi
  have h1 := hg i _ hfi
  rw [ho, hc] at h1
  have hx : xs[i]? = some (xs[i]'(by omega)) := List.getElem?_eq_getElem (by omega)
  rw [hx] at h1
  obtain ⟨x, e, _, wx⟩ := DataW.trod_int (hk i _ hfi) h1
  refine ⟨x, ?_, wx⟩
  have hci : i < cs.size := by rw [hsz, hC]; exact hi
  have e2 : ((Value.agg cs).cells.toList.drop i).take 1 = [cs[i]] := by
    show (cs.toList.drop i).take 1 = [cs[i]]
    rw [List.drop_eq_getElem_cons (by simpa using hci)]
    rfl
  rw [e2] at e
  rw [Array.getElem?_eq_getElem hci]
  injection e with e
  rw [e]
end
end Go.Proofs.YtodhaaaodmcplaaGreat
