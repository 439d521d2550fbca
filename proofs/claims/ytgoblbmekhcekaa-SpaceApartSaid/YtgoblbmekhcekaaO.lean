/- Arguments of the laws of layer 19 opened: a geometry, a deed, a row of deeds. -/
import Derived.Test.YtgoblbmekhcekaaJ
import Derived.Test.YtgoblbmekhcekaaOpenS
import Derived.Lib.SmallJoins
namespace Go.Proofs.Ytgoblbmekhcekaa
open Go.RowKit Go.ChangeShapes Go.WideShapes Go.Joins
theorem geo_fields : ∀ (i : Nat) (f : Field), (#[{ name := "Virtual", type := 3, offset := 0, embedded := false, tag := "", pkgPath := "", byteOffset := 0 }, { name := "Segments", type := 3, offset := 1, embedded := false, tag := "", pkgPath := "", byteOffset := 8 }, { name := "Segment", type := 3, offset := 2, embedded := false, tag := "", pkgPath := "", byteOffset := 16 }, { name := "Units", type := 3, offset := 3, embedded := false, tag := "", pkgPath := "", byteOffset := 24 }, { name := "Journal", type := 3, offset := 4, embedded := false, tag := "", pkgPath := "", byteOffset := 32 }] : Array Field)[i]? = some f → Try.prog.underlying f.type = some (.int .i64) := by
  intro i f hf
  have hi : i < 5 := by have := (Array.getElem?_eq_some_iff.1 hf).1; simpa using this
  have h : i = 0 ∨ i = 1 ∨ i = 2 ∨ i = 3 ∨ i = 4 := by omega
  rcases h with rfl | rfl | rfl | rfl | rfl <;> (simp at hf; subst hf; exact Try.underlying3)
theorem geo_of {cs : Array Value} (h : cs.size = 5) (hx : ∀ i, i < 5 → ∃ x : Int, cs[i]? = some (.int .i64 x) ∧ (Lit.int .i64 x).wf = true) : ∃ g : Geo, cs = gcs g := by
  obtain ⟨a, ha, _⟩ := hx 0 (by omega)
  obtain ⟨b, hb, _⟩ := hx 1 (by omega)
  obtain ⟨c, hc, _⟩ := hx 2 (by omega)
  obtain ⟨d, hd, _⟩ := hx 3 (by omega)
  obtain ⟨e, he, _⟩ := hx 4 (by omega)
  refine ⟨⟨a, b, c, d, e⟩, ?_⟩
  apply Array.ext_getElem?
  intro i
  by_cases hi : i < 5
  · have h : i = 0 ∨ i = 1 ∨ i = 2 ∨ i = 3 ∨ i = 4 := by omega
    rcases h with rfl | rfl | rfl | rfl | rfl
    · rw [ha]; rfl
    · rw [hb]; rfl
    · rw [hc]; rfl
    · rw [hd]; rfl
    · rw [he]; rfl
  · rw [Array.getElem?_eq_none (by omega), Array.getElem?_eq_none (by simp; omega)]
section
variable {H : Type} {enc : TypeId × Value → H} {W : World}
theorem deed_of {v0 v1 v2 v3 : Value} {y0 y1 y2 y3 : DataW H × List MemPlace} {n0 n1 n2 n3 : Nat} (h0 : DataW.trod enc Try.prog W 0 (fun _ => true) true n0 3 [v0] = some y0) (h1 : DataW.trod enc Try.prog W 0 (fun _ => true) true n1 3 [v1] = some y1)
    (h2 : DataW.trod enc Try.prog W 0 (fun _ => true) true n2 4 [v2] = some y2) (h3 : DataW.trod enc Try.prog W 0 (fun _ => true) true n3 24 [v3] = some y3) :
    ∃ d : Deed, v0 = .int .i64 d.kind ∧ v1 = .int .i64 d.num ∧ v2 = .bool d.deep ∧ v3 = .slice d.A d.m d.c ∧ d.Lies W W.heap.size ∧ (-9223372036854775808 ≤ d.kind ∧ d.kind ≤ 9223372036854775807) ∧ (-9223372036854775808 ≤ d.num ∧ d.num ≤ 9223372036854775807) := by
  obtain ⟨k, e0, _, wk⟩ := DataW.trod_int Try.underlying3 h0
  obtain ⟨x, e1, _, wx⟩ := DataW.trod_int Try.underlying3 h1
  obtain ⟨q, e2, _⟩ := DataW.trod_bool Try.underlying4 h2
  obtain rfl : v0 = .int .i64 k := by simpa using e0
  obtain rfl : v1 = .int .i64 x := by simpa using e1
  obtain rfl : v2 = .bool q := by simpa using e2
  have bd : ∀ {x : Int}, (Lit.int .i64 x).wf = true → -9223372036854775808 ≤ x ∧ x ≤ 9223372036854775807 := fun {x} h => by
    have hmin : IntKind.i64.min = -9223372036854775808 := rfl
    have hmax : IntKind.i64.max = 9223372036854775807 := rfl
    simp only [Lit.wf, Bool.and_eq_true, decide_eq_true_eq, hmin, hmax] at h
    omega
  rcases open_ints Try.underlying24 Try.underlying3 (by kernel_rfl) h3 with ⟨hcs, -⟩ | ⟨a, len, cap, zs, hcs, -, hl, hm, hz, -, hcell, -⟩
  · obtain rfl : v3 = .slice none 0 0 := by simpa using hcs
    exact ⟨⟨k, x, q, none, 0, 0, fun _ => 0⟩, rfl, rfl, rfl, rfl, ⟨fun h => absurd h (by show ¬ 0 < 0; omega), fun _ => ⟨rfl, rfl⟩, Nat.zero_le _⟩, bd wk, bd wx⟩
  · obtain rfl : v3 = .slice (some a) len cap := by simpa using hcs
    simp at hz
    refine ⟨⟨k, x, q, some a, len, cap, fun j => zs.getD j 0⟩, rfl, rfl, rfl, rfl, ⟨fun hpos => ?_, fun h => (by cases h), by show len ≤ _; unfold maxLen at hm; omega⟩, bd wk, bd wx⟩
    have hpos' : 0 < len := hpos
    obtain ⟨b, off, rfl, hc'⟩ := ints_at hcell (by omega)
    refine ⟨b, off, rfl, ?_, fun j hj => hc' j (by have : j < len := hj; omega)⟩
    have := hc' 0 (by omega)
    rcases Nat.lt_or_ge b W.heap.size with h | h
    · exact h
    · simp [World.cell?, Array.getElem?_eq_none h] at this
theorem open_deed {v : Value} {d : DataW H} {ps : List MemPlace} {base : Nat} (hok : Value.okWide Try.prog W .any base 36 v) (h : DataW.Trod enc Try.prog W 0 (fun _ => true) true 36 v d ps) :
    ∃ d : Deed, v = .agg d.cells ∧ d.Lies W W.heap.size := by
  obtain ⟨v0, v1, v2, v3, y0, y1, y2, y3, n, rfl, -, -, h0, h1, h2, h3⟩ := open_agg4 Try.underlying36 (by kernel_rfl) (by kernel_rfl) hok h
  obtain ⟨d, rfl, rfl, rfl, rfl, hd, -⟩ := deed_of h0 h1 h2 h3
  exact ⟨d, rfl, hd⟩
/-- A row of deeds, all of which lie where they say. -/
structure DdsAt (W : World) (A : Option Addr) (n : Nat) (D : Nat → Deed) : Prop where
  row : Dds W W.heap.size A n D
  lies : ∀ i, i < n → (D i).Lies W W.heap.size
  kind : ∀ i, i < n → -9223372036854775808 ≤ (D i).kind ∧ (D i).kind ≤ 9223372036854775807
  num : ∀ i, i < n → -9223372036854775808 ≤ (D i).num ∧ (D i).num ≤ 9223372036854775807
theorem open_deeds {v : Value} {d : DataW H} {ps : List MemPlace} {base : Nat} (hok : Value.okWide Try.prog W .any base 25 v) (h : DataW.Trod enc Try.prog W 0 (fun _ => true) true 25 v d ps) {ts : List TypeId} {ds : List (DataW H)} {j : Nat} (h1 : ts[j]? = some 25) (h2 : ds[j]? = some d)
    (hsz : (DataW.weightsEach Try.prog ts ds).all (· ≤ reachBytes) = true) :
    ∃ (A : Option Addr) (n c : Nat) (D : Nat → Deed), v = .slice A n c ∧ n ≤ 140737488351232 ∧ DdsAt W A n D := by
  obtain ⟨A, n, c, F, rfl, hnc, -, hby, -, hrow, hF⟩ := open_structs Try.underlying25 Try.underlying36 (by kernel_rfl) (by kernel_rfl) (by simp) hok h h1 h2 hsz
  have hb : Try.prog.bytesOf 36 = 48 := by kernel_rfl
  rw [hb] at hby
  simp only [reachBytes] at hby
  have hch : ∃ D : Nat → Deed, ∀ i, i < n → F i 0 = .int .i64 (D i).kind ∧ F i 1 = .int .i64 (D i).num ∧ F i 2 = .bool (D i).deep ∧ F i 3 = .slice (D i).A (D i).m (D i).c ∧ (D i).Lies W W.heap.size ∧ (-9223372036854775808 ≤ (D i).kind ∧ (D i).kind ≤ 9223372036854775807) ∧ (-9223372036854775808 ≤ (D i).num ∧ (D i).num ≤ 9223372036854775807) := by
    have hg : ∀ i, ∃ d : Deed, i < n → F i 0 = .int .i64 d.kind ∧ F i 1 = .int .i64 d.num ∧ F i 2 = .bool d.deep ∧ F i 3 = .slice d.A d.m d.c ∧ d.Lies W W.heap.size ∧ (-9223372036854775808 ≤ d.kind ∧ d.kind ≤ 9223372036854775807) ∧ (-9223372036854775808 ≤ d.num ∧ d.num ≤ 9223372036854775807) := fun i => by
      by_cases hi : i < n
      · obtain ⟨_, _, q0⟩ := hF i hi 0 _ rfl
        obtain ⟨_, _, q1⟩ := hF i hi 1 _ rfl
        obtain ⟨_, _, q2⟩ := hF i hi 2 _ rfl
        obtain ⟨_, _, q3⟩ := hF i hi 3 _ rfl
        obtain ⟨d, hd⟩ := deed_of q0 q1 q2 q3
        exact ⟨d, fun _ => hd⟩
      · exact ⟨⟨0, 0, false, none, 0, 0, fun _ => 0⟩, fun h => absurd h hi⟩
    exact ⟨fun i => Classical.choose (hg i), fun i hi => Classical.choose_spec (hg i) hi⟩
  obtain ⟨D, hD⟩ := hch
  refine ⟨A, n, c, D, rfl, by omega, fun h0 => ?_, fun i hi => (hD i hi).2.2.2.2.1, fun i hi => (hD i hi).2.2.2.2.2.1, fun i hi => (hD i hi).2.2.2.2.2.2⟩
  obtain ⟨b, off, e, hlt, hc⟩ := hrow h0
  refine ⟨b, off, e, hlt, fun i hi => ?_⟩
  obtain ⟨e0, e1, e2, e3, -⟩ := hD i hi
  have c0 := hc i hi 0 (by simp)
  have c1 := hc i hi 1 (by simp)
  have c2 := hc i hi 2 (by simp)
  have c3 := hc i hi 3 (by simp)
  rw [e0] at c0
  rw [e1] at c1
  rw [e2] at c2
  rw [e3] at c3
  exact ⟨c0, c1, c2, c3⟩
end
end Go.Proofs.Ytgoblbmekhcekaa
