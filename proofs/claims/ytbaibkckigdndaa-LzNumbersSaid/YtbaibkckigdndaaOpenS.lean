/- A slice of structs of one-cell fields, opened: cell by cell. -/
import Derived.Test.YtbaibkckigdndaaArr
import Derived.Test.YtbaibkckigdndaaOpen
import Derived.Deep.Slices
import Derived.Deep.Fields
import Derived.ChangeSame
import Derived.SizedLaws
namespace Go.Proofs.Ytbaibkckigdndaa
open Go.RowKit Go.ChangeShapes Go.WideShapes Go.Deep
section
variable {H : Type} {enc : TypeId × Value → H} {P : Program} {W : World}
theorem open_structs {t e : TypeId} {fs : Array Field} {v : Value} {d : DataW H} {ps : List MemPlace} {base : Nat} (ht : P.underlying t = some (.slice e)) (he : P.underlying e = some (.struct fs)) (hone : oneCellFields P fs = true) (hC : P.cellsOf e = fs.size) (hpos : 0 < fs.size)
    (hok : Value.okWide P W .any base t v) (h : DataW.Trod enc P W 0 (fun _ => true) true t v d ps) {ts : List TypeId} {ds : List (DataW H)} {j : Nat} (h1 : ts[j]? = some t) (h2 : ds[j]? = some d)
    (hsz : (DataW.weightsEach P ts ds).all (· ≤ reachBytes) = true) :
    ∃ (A : Option Addr) (n c : Nat) (F : Nat → Nat → Value), v = .slice A n c ∧ n ≤ c ∧ c ≤ maxLen ∧ c * P.bytesOf e ≤ reachBytes ∧ (A = none → n = 0 ∧ c = 0) ∧
      (0 < n → ∃ b off, A = some ⟨b, off, none⟩ ∧ b < W.heap.size ∧ ∀ i, i < n → ∀ j, j < fs.size → W.cell? ⟨b, off + i * fs.size + j, none⟩ = some (F i j)) ∧
      ∀ i, i < n → ∀ j f, fs[j]? = some f → ∃ fuel y, DataW.trod enc P W 0 (fun _ => true) true fuel f.type [F i j] = some y := by
  obtain ⟨a0, len, cap, rfl⟩ := okWide_slice ht hok
  obtain ⟨fuel, hf⟩ := h
  rcases open_slice ht hf with ⟨hcs, hx⟩ | ⟨a, len', cap', m, n, D, Pl, hcs, _, hl, hm, hmm, hx, hi⟩
  · simp [Value.cells] at hcs
    obtain ⟨rfl, rfl, rfl⟩ := hcs
    exact ⟨none, 0, 0, fun _ _ => undef, rfl, Nat.le_refl _, Nat.zero_le _, by simp, fun _ => ⟨rfl, rfl⟩, fun h => absurd h (by omega), fun i hi => absurd hi (by omega)⟩
  · simp [Value.cells] at hcs
    obtain ⟨rfl, rfl, rfl⟩ := hcs
    simp at hmm
    subst hmm
    have hd : d = .slice ((List.range len).map D) ((List.range (m - len)).map fun j => D (len + j)) := congrArg Prod.fst hx
    have hs := sized_slice hsz h1 (h2.trans (congrArg some hd)) ht
    simp only [List.length_map, List.length_range] at hs
    have hget : ∀ i, i < len → ∃ g : Nat → Value, ∀ j, j < fs.size → W.cell? (a.add (i * fs.size + j)) = some (g j) ∧ ∀ f, fs[j]? = some f → ∃ fuel y, DataW.trod enc P W 0 (fun _ => true) true fuel f.type [g j] = some y := by
      intro i hil
      obtain ⟨cs', hc, ht'⟩ := hi i (by omega)
      rw [hC] at hc
      obtain ⟨ys, n', hn', hy, hlen, hyl, hff⟩ := DataW.trod_struct he ht'
      obtain ⟨_, hcl, hat⟩ := World.cells?_some hc
      refine ⟨fun j => cs'.getD j undef, fun j hj => ?_⟩
      have hv : cs'[j]? = some (cs'[j]'(by omega)) := List.getElem?_eq_getElem (by omega)
      have hcell := hat j hj
      rw [Go.Deep.add_add] at hcell
      have hgd : cs'.getD j undef = cs'[j]'(by omega) := by rw [List.getD_eq_getElem?_getD, hv]; rfl
      refine ⟨(hcell.trans hv).trans (congrArg some hgd.symm), fun f hfj => ?_⟩
      obtain ⟨ho, hk⟩ := hone_of hone j f hfj
      have h1 := hff j f hfj
      rw [ho, hk] at h1
      have hone' : (cs'.drop j).take 1 = [cs'[j]'(by omega)] := by
        rw [List.drop_eq_getElem_cons (by omega)]
        rfl
      rw [hone'] at h1
      have hys : ys[j]? = some (ys[j]'(by omega)) := List.getElem?_eq_getElem (by omega)
      exact ⟨n', ys[j]'(by omega), (congrArg (fun u => DataW.trod enc P W 0 (fun _ => true) true n' f.type [u]) hgd).trans (h1.trans hys)⟩
    have hch : ∃ F : Nat → Nat → Value, ∀ i, i < len → ∀ j, j < fs.size → W.cell? (a.add (i * fs.size + j)) = some (F i j) ∧ ∀ f, fs[j]? = some f → ∃ fuel y, DataW.trod enc P W 0 (fun _ => true) true fuel f.type [F i j] = some y := by
      refine ⟨fun i => if hi : i < len then Classical.choose (hget i hi) else fun _ => undef, fun i hi => ?_⟩
      simp only [hi, dif_pos]
      exact Classical.choose_spec (hget i hi)
    obtain ⟨F, hF⟩ := hch
    refine ⟨some a, len, m, F, rfl, hl, hm, ?_, fun h => (by cases h), fun hpos' => ?_, fun i hi j f hj => ((hF i hi j (Array.getElem?_eq_some_iff.1 hj).1).2 f hj)⟩
    · rw [show len + (m - len) = m from by omega] at hs
      exact hs
    · obtain ⟨b, off, spot⟩ := a
      have h00 := (hF 0 hpos' 0 hpos).1
      have hspot : spot = none := by simpa [Addr.add] using World.cell?_spot h00
      subst hspot
      have hc : ∀ i, i < len → ∀ j, j < fs.size → W.cell? ⟨b, off + i * fs.size + j, none⟩ = some (F i j) := fun i hi j hj => by
        have h := (hF i hi j hj).1
        rw [Go.WideShapes.add_plain, ← Nat.add_assoc] at h
        exact h
      refine ⟨b, off, rfl, ?_, hc⟩
      have h0 := hc 0 hpos' 0 hpos
      rcases Nat.lt_or_ge b W.heap.size with h | h
      · exact h
      · simp [World.cell?, Array.getElem?_eq_none h] at h0
end
end Go.Proofs.Ytbaibkckigdndaa
