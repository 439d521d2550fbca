/- Steps, opened: one by value, and rows of them. Printed by genDo.py. -/
import Derived.Test.YtodhaaaodmcplaaGreatMe
import Derived.Test.YtodhaaaodmcplaaGreatOpen
import Derived.Deep.Slices
import Derived.Deep.Fields
import Derived.ChangeSame
import Derived.SizedLaws
import Derived.OpenShut
set_option linter.all false
namespace Go.Proofs.YtodhaaaodmcplaaGreat
open Go.RowKit Go.ChangeShapes Go.WideShapes Go.Deep
structure Dox where
  op : Int
  a : Int
  b : Int
  s : Sl
def Dox.cells (d : Dox) : List Value := [.int .i64 d.op, .int .i64 d.a, .int .i64 d.b] ++ slC d.s.k d.s.o d.s.m
instance : Inhabited Dox := ⟨⟨0, 0, 0, ⟨[], 0, 0⟩⟩⟩
section
variable {H : Type} {enc : TypeId × Value → H} {P : Program} {W : World}
theorem open_rows {t e : TypeId} {s : Nat} {v : Value} {d : DataW H} {ps : List MemPlace} {base : Nat} (ht : P.underlying t = some (.slice e)) (hC : P.cellsOf e = s) (hpos : 0 < s)
    (hok : Value.okWide P W .any base t v) (h : DataW.Trod enc P W 0 (fun _ => true) true t v d ps) {ts : List TypeId} {ds : List (DataW H)} {j : Nat} (h1 : ts[j]? = some t) (h2 : ds[j]? = some d)
    (hsz : (DataW.weightsEach P ts ds).all (· ≤ reachBytes) = true) :
    ∃ (A : Option Addr) (n c : Nat) (F : Nat → List Value), v = .slice A n c ∧ n ≤ c ∧ c * P.bytesOf e ≤ reachBytes ∧ (A = none → n = 0 ∧ c = 0) ∧
      (∀ i, i < n → (F i).length = s ∧ ∃ fuel y, DataW.trod enc P W 0 (fun _ => true) true fuel e (F i) = some y) ∧
      (0 < n → ∃ b off, A = some ⟨b, off, none⟩ ∧ b < W.heap.size ∧ ∀ i, i < n → W.rangeAt b (off + i * s) (F i)) := by
  obtain ⟨a0, len, cap, rfl⟩ := okWide_slice ht hok
  obtain ⟨fuel, hf⟩ := h
  rcases open_slice ht hf with ⟨hcs, hx⟩ | ⟨a, len', cap', m, n, D, Pl, hcs, _, hl, hm, hmm, hx, hi⟩
  · simp [Value.cells] at hcs
    obtain ⟨rfl, rfl, rfl⟩ := hcs
    exact ⟨none, 0, 0, fun _ => [], rfl, Nat.le_refl _, by simp, fun _ => ⟨rfl, rfl⟩, fun i hi => absurd hi (by omega), fun h => absurd h (by omega)⟩
  · simp [Value.cells] at hcs
    obtain ⟨rfl, rfl, rfl⟩ := hcs
    simp at hmm
    subst hmm
    have hd : d = .slice ((List.range len).map D) ((List.range (m - len)).map fun j => D (len + j)) := congrArg Prod.fst hx
    have hs := sized_slice hsz h1 (h2.trans (congrArg some hd)) ht
    simp only [List.length_map, List.length_range] at hs
    have hget : ∀ i, i < len → ∃ cs' : List Value, cs'.length = s ∧ (∀ j, j < s → W.cell? (a.add (i * s + j)) = cs'[j]?) ∧ ∃ fuel y, DataW.trod enc P W 0 (fun _ => true) true fuel e cs' = some y := by
      intro i hil
      obtain ⟨cs', hc, ht'⟩ := hi i (by omega)
      rw [hC] at hc
      obtain ⟨_, hcl, hat⟩ := World.cells?_some hc
      exact ⟨cs', hcl, fun j hj => by
        have hcell := hat j hj
        rwa [Go.Deep.add_add] at hcell, n, _, ht'⟩
    have hch : ∃ F : Nat → List Value, ∀ i, i < len → (F i).length = s ∧ (∀ j, j < s → W.cell? (a.add (i * s + j)) = (F i)[j]?) ∧ ∃ fuel y, DataW.trod enc P W 0 (fun _ => true) true fuel e (F i) = some y := by
      refine ⟨fun i => if hi : i < len then Classical.choose (hget i hi) else [], fun i hi => ?_⟩
      simp only [hi, dif_pos]
      exact Classical.choose_spec (hget i hi)
    obtain ⟨F, hF⟩ := hch
    refine ⟨some a, len, m, F, rfl, hl, ?_, fun h => (by cases h), fun i hi => ⟨(hF i hi).1, (hF i hi).2.2⟩, fun hpos' => ?_⟩
    · rw [show len + (m - len) = m from by omega] at hs
      exact hs
    · obtain ⟨b, off, spot⟩ := a
      have h00 := (hF 0 hpos').2.1 0 hpos
      rw [List.getElem?_eq_getElem (by rw [(hF 0 hpos').1]; exact hpos)] at h00
      have hspot : spot = none := by simpa [Addr.add] using World.cell?_spot h00
      subst hspot
      refine ⟨b, off, rfl, ?_, fun i hi j u hu => ?_⟩
      · rw [Go.WideShapes.add_plain] at h00
        rcases Nat.lt_or_ge b W.heap.size with h | h
        · exact h
        · simp [World.cell?, Array.getElem?_eq_none h] at h00
      · have hj : j < s := by rw [← (hF i hi).1]; exact (List.getElem?_eq_some_iff.1 hu).1
        have h := (hF i hi).2.1 j hj
        rw [Go.WideShapes.add_plain, ← Nat.add_assoc] at h
        exact h.trans hu
theorem u8_bd {x : Int} (h : (Lit.int .u8 x).wf = true) : 0 ≤ x ∧ x < 256 := by
  have hmin : IntKind.u8.min = 0 := rfl
  have hmax : IntKind.u8.max = 255 := rfl
  simp only [Lit.wf, Bool.and_eq_true, decide_eq_true_eq, hmin, hmax] at h
  omega
theorem one_chunk {cs : List Value} {i : Nat} {v : Value} (h : (cs.drop i).take 1 = [v]) : cs[i]? = some v := by
  have := congrArg (fun l => l[0]?) h
  simpa [List.getElem?_take, List.getElem?_drop] using this
theorem trod_key {fuel : Nat} {cs : List Value} {x : DataW H × List MemPlace} (h : DataW.trod enc Tryz.prog W 0 (fun _ => true) true fuel 31 cs = some x) : ∃ ks, KeyOk 32 ks ∧ cs = u8l ks := by
  obtain ⟨xs, m, rfl, rfl, hl, hx, hi⟩ := DataW.trod_array Tryz.underlying31 h
  have hc : Tryz.prog.cellsOf 31 = 32 := by kernel_rfl
  have hc1 : Tryz.prog.cellsOf 5 = 1 := by kernel_rfl
  rw [hc] at hl
  rw [hc1] at hi
  have hg : ∀ i, i < 32 → ∃ k, cs[i]? = some (.int .u8 k) ∧ 0 ≤ k ∧ k < 256 := fun i h9 => by
    have h8 := hi i h9
    rw [List.getElem?_eq_getElem (by rw [hx]; exact h9)] at h8
    obtain ⟨k, e, _, w⟩ := DataW.trod_int Tryz.underlying5 h8
    rw [Nat.mul_one] at e
    exact ⟨k, one_chunk e, u8_bd w⟩
  let g : Value → Int := fun v => match v with | .int _ k => k | _ => 0
  refine ⟨cs.map g, ⟨by rw [List.length_map, hl], fun y hy => ?_⟩, ?_⟩
  · obtain ⟨v, hv, rfl⟩ := List.mem_map.1 hy
    obtain ⟨i, h9, rfl⟩ := List.mem_iff_getElem.1 hv
    obtain ⟨k, e, b⟩ := hg i (by omega)
    rw [List.getElem?_eq_getElem h9] at e
    injection e with e
    rw [e]; exact b
  · apply List.ext_getElem?
    intro i
    rw [u8l, List.getElem?_map, List.getElem?_map]
    rcases Nat.lt_or_ge i 32 with h9 | h9
    · obtain ⟨k, e, _⟩ := hg i h9
      rw [e]; rfl
    · rw [List.getElem?_eq_none (by omega)]; rfl
theorem trod_one {fuel : Nat} {cs : List Value} {x : DataW H × List MemPlace} (h : DataW.trod enc Tryz.prog W 0 (fun _ => true) true fuel 3 cs = some x) : ∃ k, cs = [.int .i64 k] ∧ (Lit.int .i64 k).wf = true := by
  obtain ⟨k, e, _, w⟩ := DataW.trod_int Tryz.underlying3 h
  exact ⟨k, e, w⟩
theorem chunk (cs : List Value) (o k : Nat) : cs.drop o = (cs.drop o).take k ++ cs.drop (o + k) := by rw [← List.drop_drop, List.take_append_drop]
set_option maxRecDepth 100000 in
theorem trod_slice3 {fuel : Nat} {cs : List Value} {x : DataW H × List MemPlace} (h : DataW.trod enc Tryz.prog W 0 (fun _ => true) true fuel 33 cs = some x) : ∃ ks o mk, KeyOk 32 ks ∧ (Lit.int .i64 o).wf = true ∧ (Lit.int .i64 mk).wf = true ∧ cs = u8l ks ++ [.int .i64 o, .int .i64 mk] := by
  obtain ⟨xs, m, rfl, rfl, hl, hx, hi⟩ := DataW.trod_struct Tryz.underlying33 h
  have hsize : Tryz.prog.cellsOf 33 = 34 := by kernel_rfl
  have hxs : ∀ i, i < 3 → ∃ y, xs[i]? = some y := fun i h9 => ⟨_, List.getElem?_eq_getElem (by rw [hx]; exact h9)⟩
  obtain ⟨y0, e0⟩ := hxs 0 (by omega)
  have h0 : DataW.trod enc Tryz.prog W 0 (fun _ => true) true m 31 ((cs.drop 0).take (Tryz.prog.cellsOf 31)) = some y0 := (hi 0 _ rfl).trans e0
  rw [show Tryz.prog.cellsOf 31 = 32 by kernel_rfl] at h0
  obtain ⟨y1, e1⟩ := hxs 1 (by omega)
  have h1 : DataW.trod enc Tryz.prog W 0 (fun _ => true) true m 3 ((cs.drop 32).take (Tryz.prog.cellsOf 3)) = some y1 := (hi 1 _ rfl).trans e1
  rw [show Tryz.prog.cellsOf 3 = 1 by kernel_rfl] at h1
  obtain ⟨y2, e2⟩ := hxs 2 (by omega)
  have h2 : DataW.trod enc Tryz.prog W 0 (fun _ => true) true m 3 ((cs.drop 33).take (Tryz.prog.cellsOf 3)) = some y2 := (hi 2 _ rfl).trans e2
  rw [show Tryz.prog.cellsOf 3 = 1 by kernel_rfl] at h2
  obtain ⟨ks, hk, q0⟩ := trod_key h0
  obtain ⟨o, q1, wo⟩ := trod_one h1
  obtain ⟨mk, q2, wm⟩ := trod_one h2
  refine ⟨ks, o, mk, hk, wo, wm, ?_⟩
  have c0 := chunk cs 0 32
  have c1 := chunk cs 32 1
  have c2 := chunk cs 33 1
  rw [List.drop_eq_nil_of_le (by omega : cs.length ≤ 33 + 1), List.append_nil] at c2
  rw [List.drop_zero] at c0
  rw [List.drop_zero] at q0
  show cs = u8l ks ++ [.int .i64 o, .int .i64 mk]
  rw [c0, c1, c2, q0, q1, q2]
  rfl
set_option maxRecDepth 100000 in
theorem trod_do {fuel : Nat} {cs : List Value} {x : DataW H × List MemPlace} (h : DataW.trod enc Tryz.prog W 0 (fun _ => true) true fuel 35 cs = some x) : ∃ d : Dox, (KeyOk 32 d.s.k ∧ (Lit.int .i64 d.op).wf = true ∧ (Lit.int .i64 d.a).wf = true ∧ (Lit.int .i64 d.b).wf = true ∧ (Lit.int .i64 d.s.o).wf = true ∧ (Lit.int .i64 d.s.m).wf = true) ∧ cs = d.cells := by
  obtain ⟨xs, m, rfl, rfl, hl, hx, hi⟩ := DataW.trod_struct Tryz.underlying35 h
  have hc1 : Tryz.prog.cellsOf 3 = 1 := by kernel_rfl
  have hcs : Tryz.prog.cellsOf 33 = 34 := by kernel_rfl
  have hc2 : Tryz.prog.cellsOf 35 = 37 := by kernel_rfl
  have hxs : ∀ i, i < 4 → ∃ y, xs[i]? = some y := fun i h9 => ⟨_, List.getElem?_eq_getElem (by rw [hx]; exact h9)⟩
  obtain ⟨y0, e0⟩ := hxs 0 (by omega)
  obtain ⟨y1, e1⟩ := hxs 1 (by omega)
  obtain ⟨y2, e2⟩ := hxs 2 (by omega)
  obtain ⟨y3, e3⟩ := hxs 3 (by omega)
  have h0 : DataW.trod enc Tryz.prog W 0 (fun _ => true) true m 3 ((cs.drop 0).take (Tryz.prog.cellsOf 3)) = some y0 := (hi 0 _ rfl).trans e0
  have h1 : DataW.trod enc Tryz.prog W 0 (fun _ => true) true m 3 ((cs.drop 1).take (Tryz.prog.cellsOf 3)) = some y1 := (hi 1 _ rfl).trans e1
  have h2 : DataW.trod enc Tryz.prog W 0 (fun _ => true) true m 3 ((cs.drop 2).take (Tryz.prog.cellsOf 3)) = some y2 := (hi 2 _ rfl).trans e2
  have h3 : DataW.trod enc Tryz.prog W 0 (fun _ => true) true m 33 ((cs.drop 3).take (Tryz.prog.cellsOf 33)) = some y3 := (hi 3 _ rfl).trans e3
  rw [hc1] at h0 h1 h2
  rw [hcs] at h3
  obtain ⟨op, q0, wop⟩ := trod_one h0
  obtain ⟨a, q1, wa⟩ := trod_one h1
  obtain ⟨b, q2, wb⟩ := trod_one h2
  obtain ⟨ks, o, mk, hk, wo, wm, q3⟩ := trod_slice3 h3
  refine ⟨⟨op, a, b, ⟨ks, o, mk⟩⟩, ⟨hk, wop, wa, wb, wo, wm⟩, ?_⟩
  have c0 := chunk cs 0 1
  have c1 := chunk cs 1 1
  have c2 := chunk cs 2 1
  have c3 := chunk cs 3 34
  rw [List.drop_eq_nil_of_le (by omega : cs.length ≤ 3 + 34), List.append_nil] at c3
  rw [List.drop_zero] at c0
  rw [List.drop_zero] at q0
  show cs = [Value.int .i64 op, .int .i64 a, .int .i64 b] ++ slC ks o mk
  rw [c0, c1, c2, c3, q0, q1, q2, q3]
  rfl
set_option maxRecDepth 100000 in
theorem open_do {v : Value} {d : DataW H} {ps : List MemPlace} {base : Nat} (hok : Value.okWide Tryz.prog W .any base 35 v) (h : DataW.Trod enc Tryz.prog W 0 (fun _ => true) true 35 v d ps) :
    ∃ d : Dox, (KeyOk 32 d.s.k ∧ (Lit.int .i64 d.op).wf = true ∧ (Lit.int .i64 d.a).wf = true ∧ (Lit.int .i64 d.b).wf = true ∧ (Lit.int .i64 d.s.o).wf = true ∧ (Lit.int .i64 d.s.m).wf = true) ∧ v = .agg d.cells.toArray := by
  obtain ⟨cs, rfl, hsz⟩ := okWide_struct Tryz.underlying35 hok
  obtain ⟨fuel, hf⟩ := h
  obtain ⟨d, h1, h2⟩ := trod_do hf
  refine ⟨d, h1, ?_⟩
  have h5 : cs.toList = d.cells := h2
  rw [← h5]
set_option maxRecDepth 100000 in
theorem open_dos {v : Value} {d : DataW H} {ps : List MemPlace} {base : Nat} (hok : Value.okWide Tryz.prog W .any base 22 v) (h : DataW.Trod enc Tryz.prog W 0 (fun _ => true) true 22 v d ps) {ts : List TypeId} {ds : List (DataW H)} {j : Nat} (h1 : ts[j]? = some 22) (h2 : ds[j]? = some d)
    (hsz : (DataW.weightsEach Tryz.prog ts ds).all (· ≤ reachBytes) = true) :
    ∃ (A : Option Addr) (n c : Nat) (L : Nat → Dox), v = .slice A n c ∧ n ≤ c ∧ c * Tryz.prog.bytesOf 35 ≤ reachBytes ∧ (A = none → n = 0 ∧ c = 0) ∧ (∀ i, i < n → KeyOk 32 (L i).s.k ∧ (Lit.int .i64 (L i).op).wf = true ∧ (Lit.int .i64 (L i).a).wf = true ∧ (Lit.int .i64 (L i).b).wf = true ∧ (Lit.int .i64 (L i).s.o).wf = true ∧ (Lit.int .i64 (L i).s.m).wf = true) ∧ SArr W W.heap.size A n 37 (fun i => (L i).cells) := by
  obtain ⟨A, n, c, F, rfl, hnc, hby, hnil, hF, hrow⟩ := open_rows Tryz.underlying22 (s := 37) (by kernel_rfl) (by omega) hok h h1 h2 hsz
  have hch : ∃ L : Nat → Dox, ∀ i, i < n → (KeyOk 32 (L i).s.k ∧ (Lit.int .i64 (L i).op).wf = true ∧ (Lit.int .i64 (L i).a).wf = true ∧ (Lit.int .i64 (L i).b).wf = true ∧ (Lit.int .i64 (L i).s.o).wf = true ∧ (Lit.int .i64 (L i).s.m).wf = true) ∧ F i = (L i).cells := by
    have hg : ∀ i, ∃ c : Dox, i < n → (KeyOk 32 c.s.k ∧ (Lit.int .i64 c.op).wf = true ∧ (Lit.int .i64 c.a).wf = true ∧ (Lit.int .i64 c.b).wf = true ∧ (Lit.int .i64 c.s.o).wf = true ∧ (Lit.int .i64 c.s.m).wf = true) ∧ F i = c.cells := fun i => by
      by_cases hi : i < n
      · obtain ⟨_, fuel, y, q⟩ := hF i hi
        obtain ⟨c, e1, e2⟩ := trod_do q
        exact ⟨c, fun _ => ⟨e1, e2⟩⟩
      · exact ⟨default, fun h => absurd h hi⟩
    exact ⟨fun i => Classical.choose (hg i), fun i hi => Classical.choose_spec (hg i) hi⟩
  obtain ⟨L, hL⟩ := hch
  refine ⟨A, n, c, L, rfl, hnc, hby, hnil, fun i hi => (hL i hi).1, fun h0 => ?_⟩
  obtain ⟨b, off, e, hlt, hc⟩ := hrow h0
  exact ⟨b, off, e, hlt, fun i hi => by show W.rangeAt b (off + i * 37) (L i).cells; rw [← (hL i hi).2]; exact hc i hi⟩
end
end Go.Proofs.YtodhaaaodmcplaaGreat
