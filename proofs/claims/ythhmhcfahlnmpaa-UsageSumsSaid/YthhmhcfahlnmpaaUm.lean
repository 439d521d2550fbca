/- Arguments of the laws of layer 18 opened: a row of places, a geometry. -/
import Derived.Test.YthhmhcfahlnmpaaPp
import Derived.Test.YthhmhcfahlnmpaaOpenS
import Derived.Test.YthhmhcfahlnmpaaSrow
import Derived.Test.YthhmhcfahlnmpaaOpen
import Derived.Test.YthhmhcfahlnmpaaProg
namespace Go.Proofs.Ythhmhcfahlnmpaa
open Go.RowKit Go.ChangeShapes Go.WideShapes
section
variable {H : Type} {enc : TypeId × Value → H} {W : World}
theorem i64_bd {x : Int} (h : (Lit.int .i64 x).wf = true) : -9223372036854775808 ≤ x ∧ x ≤ 9223372036854775807 := by
  have hmin : IntKind.i64.min = -9223372036854775808 := rfl
  have hmax : IntKind.i64.max = 9223372036854775807 := rfl
  simp only [Lit.wf, Bool.and_eq_true, decide_eq_true_eq, hmin, hmax] at h
  omega
theorem okWide_spot {P : Program} {w : World} {r : Reach} {base : Nat} {t e : TypeId} {a : Addr} {n c : Nat} (ht : P.underlying t = some (.slice e)) (h : Value.okWide P w r base t (.slice (some a) n c)) : a.spot = none := by
  simp only [Value.okWide, ht, Cell.okWide, Cell.ok] at h
  exact h.2.2.2.1
set_option maxRecDepth 100000 in
theorem open_places {v : Value} {d : DataW H} {ps : List MemPlace} {base : Nat} (hok : Value.okWide Try.prog W .any base 24 v) (h : DataW.Trod enc Try.prog W 0 (fun _ => true) true 24 v d ps) {ts : List TypeId} {ds : List (DataW H)} {j : Nat} (h1 : ts[j]? = some 24) (h2 : ds[j]? = some d)
    (hsz : (DataW.weightsEach Try.prog ts ds).all (· ≤ reachBytes) = true) :
    ∃ (A : Option Addr) (n c : Nat) (L : Nat → Pl), v = .slice A n c ∧ n ≤ 4398046511000 ∧ (A = none → n = 0 ∧ c = 0) ∧ (∀ a, A = some a → a.spot = none) ∧ (∀ i, i < n → -9223372036854775808 ≤ (L i).a ∧ (L i).a ≤ 9223372036854775807 ∧ -9223372036854775808 ≤ (L i).n ∧ (L i).n ≤ 9223372036854775807) ∧ SArr W W.heap.size A n 4 (fun i => encP (L i)) := by
  obtain ⟨A, n, c, F, rfl, hnc, -, hby, hnil, hrow, hF⟩ := open_structs Try.underlying24 Try.underlying42 (by kernel_rfl) (by kernel_rfl) (by simp) hok h h1 h2 hsz
  have hb : Try.prog.bytesOf 42 = 32 := by kernel_rfl
  rw [hb] at hby
  simp only [reachBytes] at hby
  have hch : ∃ L : Nat → Pl, ∀ i, i < n → (F i 0 = .int .i64 (L i).a ∧ F i 1 = .int .i64 (L i).n ∧ F i 2 = .int .i64 (L i).u ∧ F i 3 = .int .i64 (L i).r) ∧ -9223372036854775808 ≤ (L i).a ∧ (L i).a ≤ 9223372036854775807 ∧ -9223372036854775808 ≤ (L i).n ∧ (L i).n ≤ 9223372036854775807 := by
    have hg : ∀ i, ∃ p : Pl, i < n → (F i 0 = .int .i64 p.a ∧ F i 1 = .int .i64 p.n ∧ F i 2 = .int .i64 p.u ∧ F i 3 = .int .i64 p.r) ∧ -9223372036854775808 ≤ p.a ∧ p.a ≤ 9223372036854775807 ∧ -9223372036854775808 ≤ p.n ∧ p.n ≤ 9223372036854775807 := fun i => by
      by_cases hi : i < n
      · obtain ⟨_, _, q0⟩ := hF i hi 0 _ rfl
        obtain ⟨_, _, q1⟩ := hF i hi 1 _ rfl
        obtain ⟨_, _, q2⟩ := hF i hi 2 _ rfl
        obtain ⟨_, _, q3⟩ := hF i hi 3 _ rfl
        obtain ⟨x, e0, _, wx⟩ := DataW.trod_int Try.underlying3 q0
        obtain ⟨y, e1, _, wy⟩ := DataW.trod_int Try.underlying3 q1
        obtain ⟨z, e2, _, _⟩ := DataW.trod_int Try.underlying3 q2
        obtain ⟨u, e3, _, _⟩ := DataW.trod_int Try.underlying3 q3
        exact ⟨⟨x, y, z, u⟩, fun _ => ⟨⟨by simpa using e0, by simpa using e1, by simpa using e2, by simpa using e3⟩, (i64_bd wx).1, (i64_bd wx).2, (i64_bd wy).1, (i64_bd wy).2⟩⟩
      · exact ⟨⟨0, 0, 0, 0⟩, fun h => absurd h hi⟩
    exact ⟨fun i => Classical.choose (hg i), fun i hi => Classical.choose_spec (hg i) hi⟩
  obtain ⟨L, hL⟩ := hch
  refine ⟨A, n, c, L, rfl, by omega, hnil, fun a ha => okWide_spot Try.underlying24 (ha ▸ hok), fun k hk => (hL k hk).2, fun h0 => ?_⟩
  obtain ⟨b, off, e, hlt, hc⟩ := hrow h0
  refine ⟨b, off, e, hlt, fun i hi j u hu => ?_⟩
  obtain ⟨⟨e0, e1, e2, e3⟩, -⟩ := hL i hi
  have c0 := hc i hi 0 (by simp)
  have c1 := hc i hi 1 (by simp)
  have c2 := hc i hi 2 (by simp)
  have c3 := hc i hi 3 (by simp)
  rw [e0] at c0
  rw [e1] at c1
  rw [e2] at c2
  rw [e3] at c3
  match j, hu with
  | 0, hu => obtain rfl := Option.some.inj hu; exact c0
  | 1, hu => obtain rfl := Option.some.inj hu; exact c1
  | 2, hu => obtain rfl := Option.some.inj hu; exact c2
  | 3, hu => obtain rfl := Option.some.inj hu; exact c3
theorem geo_fields : ∀ (i : Nat) (f : Field), (#[{ name := "Virtual", type := 3, offset := 0, embedded := false, tag := "", pkgPath := "", byteOffset := 0 }, { name := "Segments", type := 3, offset := 1, embedded := false, tag := "", pkgPath := "", byteOffset := 8 }, { name := "Segment", type := 3, offset := 2, embedded := false, tag := "", pkgPath := "", byteOffset := 16 }, { name := "Units", type := 3, offset := 3, embedded := false, tag := "", pkgPath := "", byteOffset := 24 }, { name := "Journal", type := 3, offset := 4, embedded := false, tag := "", pkgPath := "", byteOffset := 32 }] : Array Field)[i]? = some f → Try.prog.underlying f.type = some (.int .i64) := by
  intro i f hf
  have hi : i < 5 := by have := (Array.getElem?_eq_some_iff.1 hf).1; simpa using this
  have h : i = 0 ∨ i = 1 ∨ i = 2 ∨ i = 3 ∨ i = 4 := by omega
  rcases h with rfl | rfl | rfl | rfl | rfl <;> (simp at hf; subst hf; exact Try.underlying3)
theorem geo_of {cs : Array Value} (h : cs.size = 5) (hx : ∀ i, i < 5 → ∃ x : Int, cs[i]? = some (.int .i64 x) ∧ (Lit.int .i64 x).wf = true) : ∃ g : Geo, cs = gcs g := by
  obtain ⟨a, ha, _⟩ := hx 0 (by omega)
  obtain ⟨b, hb, _⟩ := hx 1 (by omega)
  obtain ⟨c, hc, _⟩ := hx 2 (by omega)
  obtain ⟨d, hd, _⟩ := hx 3 (by omega)
  obtain ⟨e, he, _⟩ := hx 4 (by omega)
  refine ⟨⟨a, b, c, d, e⟩, ?_⟩
  apply Array.ext_getElem?
  intro i
  by_cases hi : i < 5
  · have h : i = 0 ∨ i = 1 ∨ i = 2 ∨ i = 3 ∨ i = 4 := by omega
    rcases h with rfl | rfl | rfl | rfl | rfl
    · rw [ha]; rfl
    · rw [hb]; rfl
    · rw [hc]; rfl
    · rw [hd]; rfl
    · rw [he]; rfl
  · rw [Array.getElem?_eq_none (by omega), Array.getElem?_eq_none (by simp; omega)]
end
end Go.Proofs.Ythhmhcfahlnmpaa
