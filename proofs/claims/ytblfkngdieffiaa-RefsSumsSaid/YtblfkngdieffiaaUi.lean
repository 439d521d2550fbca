/- Rows of items, opened. -/
import Derived.Test.YtblfkngdieffiaaUo
namespace Go.Proofs.Ytblfkngdieffiaa
open Go.RowKit Go.ChangeShapes Go.WideShapes Go.Deep
section
variable {H : Type} {enc : TypeId × Value → H} {W : World}
theorem trod_u8 {fuel : Nat} {t : TypeId} {cs : List Value} {x : DataW H × List MemPlace} (ht : Try.prog.underlying t = some (.int .u8)) (h : DataW.trod enc Try.prog W 0 (fun _ => true) true fuel t cs = some x) : ∃ k, cs = [.int .u8 k] ∧ (Lit.int .u8 k).wf = true := by
  obtain ⟨k, e, _, w⟩ := DataW.trod_int ht h
  exact ⟨k, e, w⟩
set_option maxRecDepth 100000 in
theorem trod_place {fuel : Nat} {cs : List Value} {x : DataW H × List MemPlace} (h : DataW.trod enc Try.prog W 0 (fun _ => true) true fuel 38 cs = some x) : ∃ a n u r, cs = [.int .i64 a, .int .i64 n, .int .i64 u, .int .i64 r] ∧ (Lit.int .i64 a).wf = true ∧ (Lit.int .i64 n).wf = true ∧ (Lit.int .i64 u).wf = true ∧ (Lit.int .i64 r).wf = true := by
  obtain ⟨xs, m, rfl, rfl, hl, hx, hi⟩ := DataW.trod_struct Try.underlying38 h
  have hc1 : Try.prog.cellsOf 3 = 1 := by kernel_rfl
  have hc2 : Try.prog.cellsOf 38 = 4 := by kernel_rfl
  have hxs : ∀ i, i < 4 → ∃ y, xs[i]? = some y := fun i h9 => ⟨_, List.getElem?_eq_getElem (by rw [hx]; exact h9)⟩
  have hf : ∀ i, i < 4 → ∃ k, (cs.drop i).take 1 = [.int .i64 k] ∧ (Lit.int .i64 k).wf = true := fun i h9 => by
    obtain ⟨y, e⟩ := hxs i h9
    match i, h9 with
    | 0, _ =>
      have h0 : DataW.trod enc Try.prog W 0 (fun _ => true) true m 3 ((cs.drop 0).take (Try.prog.cellsOf 3)) = some y := (hi 0 _ rfl).trans e
      rw [hc1] at h0; exact trod_one h0
    | 1, _ =>
      have h0 : DataW.trod enc Try.prog W 0 (fun _ => true) true m 3 ((cs.drop 1).take (Try.prog.cellsOf 3)) = some y := (hi 1 _ rfl).trans e
      rw [hc1] at h0; exact trod_one h0
    | 2, _ =>
      have h0 : DataW.trod enc Try.prog W 0 (fun _ => true) true m 3 ((cs.drop 2).take (Try.prog.cellsOf 3)) = some y := (hi 2 _ rfl).trans e
      rw [hc1] at h0; exact trod_one h0
    | 3, _ =>
      have h0 : DataW.trod enc Try.prog W 0 (fun _ => true) true m 3 ((cs.drop 3).take (Try.prog.cellsOf 3)) = some y := (hi 3 _ rfl).trans e
      rw [hc1] at h0; exact trod_one h0
  obtain ⟨a, ea, wa⟩ := hf 0 (by omega)
  obtain ⟨n, en, wn⟩ := hf 1 (by omega)
  obtain ⟨u, eu, wu⟩ := hf 2 (by omega)
  obtain ⟨r, er, wr⟩ := hf 3 (by omega)
  refine ⟨a, n, u, r, ?_, wa, wn, wu, wr⟩
  have c0 := chunk cs 0 1
  have c1 := chunk cs 1 1
  have c2 := chunk cs 2 1
  have c3 := chunk cs 3 1
  rw [List.drop_eq_nil_of_le (by omega : cs.length ≤ 3 + 1)] at c3
  rw [List.drop_zero] at c0
  rw [List.drop_zero] at ea
  rw [c0, c1, c2, c3, ea, en, eu, er]
  rfl
set_option maxRecDepth 100000 in
theorem trod_slice {fuel : Nat} {cs : List Value} {x : DataW H × List MemPlace} (h : DataW.trod enc Try.prog W 0 (fun _ => true) true fuel 40 cs = some x) : ∃ ks o m, cs = u8l ks ++ [.int .i64 o, .int .i64 m] ∧ KeyOk 32 ks ∧ (Lit.int .i64 o).wf = true ∧ (Lit.int .i64 m).wf = true := by
  obtain ⟨xs, m, rfl, rfl, hl, hx, hi⟩ := DataW.trod_struct Try.underlying40 h
  have hc : Try.prog.cellsOf 35 = 32 := by kernel_rfl
  have hc1 : Try.prog.cellsOf 3 = 1 := by kernel_rfl
  have hc2 : Try.prog.cellsOf 40 = 34 := by kernel_rfl
  have hxs : ∀ i, i < 3 → ∃ y, xs[i]? = some y := fun i h9 => ⟨_, List.getElem?_eq_getElem (by rw [hx]; exact h9)⟩
  obtain ⟨y0, e0⟩ := hxs 0 (by omega)
  obtain ⟨y1, e1⟩ := hxs 1 (by omega)
  obtain ⟨y2, e2⟩ := hxs 2 (by omega)
  have h0 : DataW.trod enc Try.prog W 0 (fun _ => true) true m 35 ((cs.drop 0).take (Try.prog.cellsOf 35)) = some y0 := (hi 0 _ rfl).trans e0
  have h1 : DataW.trod enc Try.prog W 0 (fun _ => true) true m 3 ((cs.drop 32).take (Try.prog.cellsOf 3)) = some y1 := (hi 1 _ rfl).trans e1
  have h2 : DataW.trod enc Try.prog W 0 (fun _ => true) true m 3 ((cs.drop 33).take (Try.prog.cellsOf 3)) = some y2 := (hi 2 _ rfl).trans e2
  rw [hc] at h0
  rw [hc1] at h1 h2
  obtain ⟨ks, hk, q0⟩ := trod_key h0
  obtain ⟨o, q1, wo⟩ := trod_one h1
  obtain ⟨mm, q2, wm⟩ := trod_one h2
  refine ⟨ks, o, mm, ?_, hk, wo, wm⟩
  have c0 := chunk cs 0 32
  have c1 := chunk cs 32 1
  have c2 := chunk cs 33 1
  rw [List.drop_eq_nil_of_le (by omega : cs.length ≤ 33 + 1)] at c2
  rw [List.drop_zero] at c0
  rw [List.drop_zero] at q0
  rw [c0, c1, c2, q0, q1, q2]
  rfl
set_option maxRecDepth 100000 in
theorem trod_item {fuel : Nat} {cs : List Value} {x : DataW H × List MemPlace} (h : DataW.trod enc Try.prog W 0 (fun _ => true) true fuel 42 cs = some x) : ∃ c : ElIt, cs = cellsIt c := by
  obtain ⟨xs, m, rfl, rfl, hl, hx, hi⟩ := DataW.trod_struct Try.underlying42 h
  have hc : Try.prog.cellsOf 35 = 32 := by kernel_rfl
  have hc1 : Try.prog.cellsOf 3 = 1 := by kernel_rfl
  have hck : Try.prog.cellsOf 36 = 1 := by kernel_rfl
  have hcp : Try.prog.cellsOf 38 = 4 := by kernel_rfl
  have hcs : Try.prog.cellsOf 40 = 34 := by kernel_rfl
  have hc2 : Try.prog.cellsOf 42 = 73 := by kernel_rfl
  have hxs : ∀ i, i < 6 → ∃ y, xs[i]? = some y := fun i h9 => ⟨_, List.getElem?_eq_getElem (by rw [hx]; exact h9)⟩
  obtain ⟨y0, e0⟩ := hxs 0 (by omega)
  obtain ⟨y1, e1⟩ := hxs 1 (by omega)
  obtain ⟨y2, e2⟩ := hxs 2 (by omega)
  obtain ⟨y3, e3⟩ := hxs 3 (by omega)
  obtain ⟨y4, e4⟩ := hxs 4 (by omega)
  obtain ⟨y5, e5⟩ := hxs 5 (by omega)
  have h0 : DataW.trod enc Try.prog W 0 (fun _ => true) true m 36 ((cs.drop 0).take (Try.prog.cellsOf 36)) = some y0 := (hi 0 _ rfl).trans e0
  have h1 : DataW.trod enc Try.prog W 0 (fun _ => true) true m 35 ((cs.drop 1).take (Try.prog.cellsOf 35)) = some y1 := (hi 1 _ rfl).trans e1
  have h2 : DataW.trod enc Try.prog W 0 (fun _ => true) true m 38 ((cs.drop 33).take (Try.prog.cellsOf 38)) = some y2 := (hi 2 _ rfl).trans e2
  have h3 : DataW.trod enc Try.prog W 0 (fun _ => true) true m 3 ((cs.drop 37).take (Try.prog.cellsOf 3)) = some y3 := (hi 3 _ rfl).trans e3
  have h4 : DataW.trod enc Try.prog W 0 (fun _ => true) true m 3 ((cs.drop 38).take (Try.prog.cellsOf 3)) = some y4 := (hi 4 _ rfl).trans e4
  have h5 : DataW.trod enc Try.prog W 0 (fun _ => true) true m 40 ((cs.drop 39).take (Try.prog.cellsOf 40)) = some y5 := (hi 5 _ rfl).trans e5
  rw [hck] at h0
  rw [hc] at h1
  rw [hcp] at h2
  rw [hc1] at h3 h4
  rw [hcs] at h5
  obtain ⟨kd, q0, wk⟩ := trod_u8 Try.underlying36 h0
  obtain ⟨ks, hk, q1⟩ := trod_key h1
  obtain ⟨a, n, u, r, q2, wa, wn, wu, wr⟩ := trod_place h2
  obtain ⟨sn, q3, wsn⟩ := trod_one h3
  obtain ⟨un, q4, wun⟩ := trod_one h4
  obtain ⟨sk, so, sm, q5, hsk, wso, wsm⟩ := trod_slice h5
  refine ⟨⟨⟨kd, ks, a, n, u, r, sn, un, sk, so, sm⟩, ⟨wk, hk, wa, wn, wu, wr, wsn, wun, hsk, wso, wsm⟩⟩, ?_⟩
  have c0 := chunk cs 0 1
  have c1 := chunk cs 1 32
  have c2 := chunk cs 33 4
  have c3 := chunk cs 37 1
  have c4 := chunk cs 38 1
  have c5 := chunk cs 39 34
  rw [List.drop_eq_nil_of_le (by omega : cs.length ≤ 39 + 34)] at c5
  rw [List.drop_zero] at c0
  rw [List.drop_zero] at q0
  show cs = itmCells _
  rw [c0, c1, c2, c3, c4, c5, q0, q1, q2, q3, q4, q5]
  simp [itmCells]
set_option maxRecDepth 100000 in
theorem open_items {v : Value} {d : DataW H} {ps : List MemPlace} {base : Nat} (hok : Value.okWide Try.prog W .any base 22 v) (h : DataW.Trod enc Try.prog W 0 (fun _ => true) true 22 v d ps) {ts : List TypeId} {ds : List (DataW H)} {j : Nat} (h1 : ts[j]? = some 22) (h2 : ds[j]? = some d)
    (hsz : (DataW.weightsEach Try.prog ts ds).all (· ≤ reachBytes) = true) :
    ∃ (A : Option Addr) (n c : Nat) (L : Nat → ElIt), v = .slice A n c ∧ n ≤ c ∧ (A = none → n = 0 ∧ c = 0) ∧ SArr W W.heap.size A n 73 (fun i => cellsIt (L i)) := by
  obtain ⟨A, n, c, F, rfl, hnc, hby, hnil, hF, hrow⟩ := open_rows Try.underlying22 (s := 73) (by kernel_rfl) (by omega) hok h h1 h2 hsz
  have hch : ∃ L : Nat → ElIt, ∀ i, i < n → F i = cellsIt (L i) := by
    have hg : ∀ i, ∃ c : ElIt, i < n → F i = cellsIt c := fun i => by
      by_cases hi : i < n
      · obtain ⟨_, fuel, y, q⟩ := hF i hi
        obtain ⟨c, e⟩ := trod_item q
        exact ⟨c, fun _ => e⟩
      · exact ⟨default, fun h => absurd h hi⟩
    exact ⟨fun i => Classical.choose (hg i), fun i hi => Classical.choose_spec (hg i) hi⟩
  obtain ⟨L, hL⟩ := hch
  refine ⟨A, n, c, L, rfl, hnc, hnil, fun h0 => ?_⟩
  obtain ⟨b, off, e, hlt, hc⟩ := hrow h0
  exact ⟨b, off, e, hlt, fun i hi => by show W.rangeAt b (off + i * 73) (cellsIt (L i)); rw [← hL i hi]; exact hc i hi⟩
end
end Go.Proofs.Ytblfkngdieffiaa
