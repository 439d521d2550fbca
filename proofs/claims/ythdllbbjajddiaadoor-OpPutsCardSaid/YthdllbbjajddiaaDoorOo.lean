/- Ops opened: by value, their rows element by element. -/
import Derived.Test.YthdllbbjajddiaaDoorAw
import Derived.Test.YthdllbbjajddiaaDoorOpen
import Derived.Deep.Slices
import Derived.Deep.Fields
import Derived.ChangeSame
import Derived.SizedLaws
import Derived.OpenShut
namespace Go.Proofs.YthdllbbjajddiaaDoor
open Go.RowKit Go.ChangeShapes Go.WideShapes Go.Deep
section
variable {H : Type} {enc : TypeId × Value → H} {P : Program} {W : World}
theorem open_rows0 {t e : TypeId} {s fuel : Nat} {cs : List Value} {x : DataW H × List MemPlace} (ht : P.underlying t = some (.slice e)) (hC : P.cellsOf e = s) (hpos : 0 < s)
    (hf : DataW.trod enc P W 0 (fun _ => true) true fuel t cs = some x) {ts : List TypeId} {ds : List (DataW H)} {j : Nat} (h1 : ts[j]? = some t) (h2 : ds[j]? = some x.1)
    (hsz : (DataW.weightsEach P ts ds).all (· ≤ reachBytes) = true) :
    ∃ (A : Option Addr) (n c : Nat) (F : Nat → List Value), cs = [.slice A n c] ∧ n ≤ c ∧ c * P.bytesOf e ≤ reachBytes ∧ (A = none → n = 0 ∧ c = 0) ∧
      (∀ i, i < n → (F i).length = s ∧ ∃ fuel y, DataW.trod enc P W 0 (fun _ => true) true fuel e (F i) = some y) ∧
      (0 < n → ∃ b off, A = some ⟨b, off, none⟩ ∧ b < W.heap.size ∧ ∀ i, i < n → W.rangeAt b (off + i * s) (F i)) := by
  rcases open_slice ht hf with ⟨rfl, hx⟩ | ⟨a, len, m', m, n, D, Pl, rfl, _, hl, hm, hmm, hx, hi⟩
  · exact ⟨none, 0, 0, fun _ => [], rfl, Nat.le_refl _, by simp, fun _ => ⟨rfl, rfl⟩, fun i hi => absurd hi (by omega), fun h => absurd h (by omega)⟩
  · simp at hmm
    subst hmm
    have hd : x.1 = .slice ((List.range len).map D) ((List.range (m - len)).map fun j => D (len + j)) := congrArg Prod.fst hx
    have hs := sized_slice hsz h1 (h2.trans (congrArg some hd)) ht
    simp only [List.length_map, List.length_range] at hs
    have hget : ∀ i, i < len → ∃ cs' : List Value, cs'.length = s ∧ (∀ j, j < s → W.cell? (a.add (i * s + j)) = cs'[j]?) ∧ ∃ fuel y, DataW.trod enc P W 0 (fun _ => true) true fuel e cs' = some y := by
      intro i hil
      obtain ⟨cs', hc, ht'⟩ := hi i (by omega)
      rw [hC] at hc
      obtain ⟨_, hcl, hat⟩ := World.cells?_some hc
      exact ⟨cs', hcl, fun j hj => by
        have hcell := hat j hj
        rwa [Go.Deep.add_add] at hcell, n, _, ht'⟩
    have hch : ∃ F : Nat → List Value, ∀ i, i < len → (F i).length = s ∧ (∀ j, j < s → W.cell? (a.add (i * s + j)) = (F i)[j]?) ∧ ∃ fuel y, DataW.trod enc P W 0 (fun _ => true) true fuel e (F i) = some y := by
      refine ⟨fun i => if hi : i < len then Classical.choose (hget i hi) else [], fun i hi => ?_⟩
      simp only [hi, dif_pos]
      exact Classical.choose_spec (hget i hi)
    obtain ⟨F, hF⟩ := hch
    refine ⟨some a, len, m, F, rfl, hl, ?_, fun h => (by cases h), fun i hi => ⟨(hF i hi).1, (hF i hi).2.2⟩, fun hpos' => ?_⟩
    · rw [show len + (m - len) = m from by omega] at hs
      exact hs
    · obtain ⟨b, off, spot⟩ := a
      have h00 := (hF 0 hpos').2.1 0 hpos
      rw [List.getElem?_eq_getElem (by rw [(hF 0 hpos').1]; exact hpos)] at h00
      have hspot : spot = none := by simpa [Addr.add] using World.cell?_spot h00
      subst hspot
      refine ⟨b, off, rfl, ?_, fun i hi j u hu => ?_⟩
      · rw [Go.WideShapes.add_plain] at h00
        rcases Nat.lt_or_ge b W.heap.size with h | h
        · exact h
        · simp [World.cell?, Array.getElem?_eq_none h] at h00
      · have hj : j < s := by rw [← (hF i hi).1]; exact (List.getElem?_eq_some_iff.1 hu).1
        have h := (hF i hi).2.1 j hj
        rw [Go.WideShapes.add_plain, ← Nat.add_assoc] at h
        exact h.trans hu
theorem u8_bd {x : Int} (h : (Lit.int .u8 x).wf = true) : 0 ≤ x ∧ x < 256 := by
  have hmin : IntKind.u8.min = 0 := rfl
  have hmax : IntKind.u8.max = 255 := rfl
  simp only [Lit.wf, Bool.and_eq_true, decide_eq_true_eq, hmin, hmax] at h
  omega
theorem one_chunk {cs : List Value} {i : Nat} {v : Value} (h : (cs.drop i).take 1 = [v]) : cs[i]? = some v := by
  have := congrArg (fun l => l[0]?) h
  simpa [List.getElem?_take, List.getElem?_drop] using this
theorem trod_key {fuel : Nat} {cs : List Value} {x : DataW H × List MemPlace} (h : DataW.trod enc Tryd.prog W 0 (fun _ => true) true fuel 60 cs = some x) : ∃ ks, KeyOk 32 ks ∧ cs = u8l ks := by
  obtain ⟨xs, m, rfl, rfl, hl, hx, hi⟩ := DataW.trod_array Tryd.underlying60 h
  have hc : Tryd.prog.cellsOf 60 = 32 := by kernel_rfl
  have hc1 : Tryd.prog.cellsOf 5 = 1 := by kernel_rfl
  rw [hc] at hl
  rw [hc1] at hi
  have hg : ∀ i, i < 32 → ∃ k, cs[i]? = some (.int .u8 k) ∧ 0 ≤ k ∧ k < 256 := fun i h9 => by
    have h8 := hi i h9
    rw [List.getElem?_eq_getElem (by rw [hx]; exact h9)] at h8
    obtain ⟨k, e, _, w⟩ := DataW.trod_int Tryd.underlying5 h8
    rw [Nat.mul_one] at e
    exact ⟨k, one_chunk e, u8_bd w⟩
  let g : Value → Int := fun v => match v with | .int _ k => k | _ => 0
  refine ⟨cs.map g, ⟨by rw [List.length_map, hl], fun y hy => ?_⟩, ?_⟩
  · obtain ⟨v, hv, rfl⟩ := List.mem_map.1 hy
    obtain ⟨i, h9, rfl⟩ := List.mem_iff_getElem.1 hv
    obtain ⟨k, e, b⟩ := hg i (by omega)
    rw [List.getElem?_eq_getElem h9] at e
    injection e with e
    rw [e]; exact b
  · apply List.ext_getElem?
    intro i
    rw [u8l, List.getElem?_map, List.getElem?_map]
    rcases Nat.lt_or_ge i 32 with h9 | h9
    · obtain ⟨k, e, _⟩ := hg i h9
      rw [e]; rfl
    · rw [List.getElem?_eq_none (by omega)]; rfl
theorem trod_one {fuel : Nat} {cs : List Value} {x : DataW H × List MemPlace} (h : DataW.trod enc Tryd.prog W 0 (fun _ => true) true fuel 3 cs = some x) : ∃ k, cs = [.int .i64 k] ∧ (Lit.int .i64 k).wf = true := by
  obtain ⟨k, e, _, w⟩ := DataW.trod_int Tryd.underlying3 h
  exact ⟨k, e, w⟩
theorem chunk (cs : List Value) (o k : Nat) : cs.drop o = (cs.drop o).take k ++ cs.drop (o + k) := by rw [← List.drop_drop, List.take_append_drop]
set_option maxRecDepth 100000 in
theorem trod_place {fuel : Nat} {cs : List Value} {x : DataW H × List MemPlace} (h : DataW.trod enc Tryd.prog W 0 (fun _ => true) true fuel 62 cs = some x) : ∃ a n u r, cs = [.int .i64 a, .int .i64 n, .int .i64 u, .int .i64 r] ∧ (Lit.int .i64 a).wf = true ∧ (Lit.int .i64 n).wf = true ∧ (Lit.int .i64 u).wf = true ∧ (Lit.int .i64 r).wf = true := by
  obtain ⟨xs, m, rfl, rfl, hl, hx, hi⟩ := DataW.trod_struct Tryd.underlying62 h
  have hc1 : Tryd.prog.cellsOf 3 = 1 := by kernel_rfl
  have hc2 : Tryd.prog.cellsOf 62 = 4 := by kernel_rfl
  have hxs : ∀ i, i < 4 → ∃ y, xs[i]? = some y := fun i h9 => ⟨_, List.getElem?_eq_getElem (by rw [hx]; exact h9)⟩
  have hf : ∀ i, i < 4 → ∃ k, (cs.drop i).take 1 = [.int .i64 k] ∧ (Lit.int .i64 k).wf = true := fun i h9 => by
    obtain ⟨y, e⟩ := hxs i h9
    match i, h9 with
    | 0, _ =>
      have h0 : DataW.trod enc Tryd.prog W 0 (fun _ => true) true m 3 ((cs.drop 0).take (Tryd.prog.cellsOf 3)) = some y := (hi 0 _ rfl).trans e
      rw [hc1] at h0; exact trod_one h0
    | 1, _ =>
      have h0 : DataW.trod enc Tryd.prog W 0 (fun _ => true) true m 3 ((cs.drop 1).take (Tryd.prog.cellsOf 3)) = some y := (hi 1 _ rfl).trans e
      rw [hc1] at h0; exact trod_one h0
    | 2, _ =>
      have h0 : DataW.trod enc Tryd.prog W 0 (fun _ => true) true m 3 ((cs.drop 2).take (Tryd.prog.cellsOf 3)) = some y := (hi 2 _ rfl).trans e
      rw [hc1] at h0; exact trod_one h0
    | 3, _ =>
      have h0 : DataW.trod enc Tryd.prog W 0 (fun _ => true) true m 3 ((cs.drop 3).take (Tryd.prog.cellsOf 3)) = some y := (hi 3 _ rfl).trans e
      rw [hc1] at h0; exact trod_one h0
  obtain ⟨a, ea, wa⟩ := hf 0 (by omega)
  obtain ⟨n, en, wn⟩ := hf 1 (by omega)
  obtain ⟨u, eu, wu⟩ := hf 2 (by omega)
  obtain ⟨r, er, wr⟩ := hf 3 (by omega)
  refine ⟨a, n, u, r, ?_, wa, wn, wu, wr⟩
  have c0 := chunk cs 0 1
  have c1 := chunk cs 1 1
  have c2 := chunk cs 2 1
  have c3 := chunk cs 3 1
  rw [List.drop_eq_nil_of_le (by omega : cs.length ≤ 3 + 1)] at c3
  rw [List.drop_zero] at c0
  rw [List.drop_zero] at ea
  rw [c0, c1, c2, c3, ea, en, eu, er]
  rfl
set_option maxRecDepth 100000 in
theorem trod_fresh {fuel : Nat} {cs : List Value} {x : DataW H × List MemPlace} (h : DataW.trod enc Tryd.prog W 0 (fun _ => true) true fuel 64 cs = some x) : ∃ c : ElF, cs = cellsF c := by
  obtain ⟨xs, m, rfl, rfl, hl, hx, hi⟩ := DataW.trod_struct Tryd.underlying64 h
  have hsize : Tryd.prog.cellsOf 64 = 36 := by kernel_rfl
  have hxs : ∀ i, i < 2 → ∃ y, xs[i]? = some y := fun i h9 => ⟨_, List.getElem?_eq_getElem (by rw [hx]; exact h9)⟩
  obtain ⟨y0, e0⟩ := hxs 0 (by omega)
  have h0 : DataW.trod enc Tryd.prog W 0 (fun _ => true) true m 60 ((cs.drop 0).take (Tryd.prog.cellsOf 60)) = some y0 := (hi 0 _ rfl).trans e0
  rw [show Tryd.prog.cellsOf 60 = 32 by kernel_rfl] at h0
  obtain ⟨y1, e1⟩ := hxs 1 (by omega)
  have h1 : DataW.trod enc Tryd.prog W 0 (fun _ => true) true m 62 ((cs.drop 32).take (Tryd.prog.cellsOf 62)) = some y1 := (hi 1 _ rfl).trans e1
  rw [show Tryd.prog.cellsOf 62 = 4 by kernel_rfl] at h1
  obtain ⟨ks, hk, q0⟩ := trod_key h0
  obtain ⟨a, n, u, r, q1, wa, wn, wu, wr⟩ := trod_place h1
  refine ⟨⟨⟨ks, a, n, u, r⟩, ⟨hk, wa, wn, wu, wr⟩⟩, ?_⟩
  have c0 := chunk cs 0 32
  have c1 := chunk cs 32 4
  rw [List.drop_eq_nil_of_le (by omega : cs.length ≤ 32 + 4), List.append_nil] at c1
  rw [List.drop_zero] at c0
  rw [List.drop_zero] at q0
  show cs = frC ⟨ks, a, n, u, r⟩
  rw [c0, c1, q0, q1]
  rfl
set_option maxRecDepth 100000 in
theorem trod_slice3 {fuel : Nat} {cs : List Value} {x : DataW H × List MemPlace} (h : DataW.trod enc Tryd.prog W 0 (fun _ => true) true fuel 70 cs = some x) : ∃ ks o mk, KeyOk 32 ks ∧ (Lit.int .i64 o).wf = true ∧ (Lit.int .i64 mk).wf = true ∧ cs = u8l ks ++ [.int .i64 o, .int .i64 mk] := by
  obtain ⟨xs, m, rfl, rfl, hl, hx, hi⟩ := DataW.trod_struct Tryd.underlying70 h
  have hsize : Tryd.prog.cellsOf 70 = 34 := by kernel_rfl
  have hxs : ∀ i, i < 3 → ∃ y, xs[i]? = some y := fun i h9 => ⟨_, List.getElem?_eq_getElem (by rw [hx]; exact h9)⟩
  obtain ⟨y0, e0⟩ := hxs 0 (by omega)
  have h0 : DataW.trod enc Tryd.prog W 0 (fun _ => true) true m 60 ((cs.drop 0).take (Tryd.prog.cellsOf 60)) = some y0 := (hi 0 _ rfl).trans e0
  rw [show Tryd.prog.cellsOf 60 = 32 by kernel_rfl] at h0
  obtain ⟨y1, e1⟩ := hxs 1 (by omega)
  have h1 : DataW.trod enc Tryd.prog W 0 (fun _ => true) true m 3 ((cs.drop 32).take (Tryd.prog.cellsOf 3)) = some y1 := (hi 1 _ rfl).trans e1
  rw [show Tryd.prog.cellsOf 3 = 1 by kernel_rfl] at h1
  obtain ⟨y2, e2⟩ := hxs 2 (by omega)
  have h2 : DataW.trod enc Tryd.prog W 0 (fun _ => true) true m 3 ((cs.drop 33).take (Tryd.prog.cellsOf 3)) = some y2 := (hi 2 _ rfl).trans e2
  rw [show Tryd.prog.cellsOf 3 = 1 by kernel_rfl] at h2
  obtain ⟨ks, hk, q0⟩ := trod_key h0
  obtain ⟨o, q1, wo⟩ := trod_one h1
  obtain ⟨mk, q2, wm⟩ := trod_one h2
  refine ⟨ks, o, mk, hk, wo, wm, ?_⟩
  have c0 := chunk cs 0 32
  have c1 := chunk cs 32 1
  have c2 := chunk cs 33 1
  rw [List.drop_eq_nil_of_le (by omega : cs.length ≤ 33 + 1), List.append_nil] at c2
  rw [List.drop_zero] at c0
  rw [List.drop_zero] at q0
  show cs = u8l ks ++ [.int .i64 o, .int .i64 mk]
  rw [c0, c1, c2, q0, q1, q2]
  rfl
set_option maxRecDepth 100000 in
theorem trod_put {fuel : Nat} {cs : List Value} {x : DataW H × List MemPlace} (h : DataW.trod enc Tryd.prog W 0 (fun _ => true) true fuel 72 cs = some x) : ∃ c : ElP, cs = cellsP c := by
  obtain ⟨xs, m, rfl, rfl, hl, hx, hi⟩ := DataW.trod_struct Tryd.underlying72 h
  have hsize : Tryd.prog.cellsOf 72 = 35 := by kernel_rfl
  have hxs : ∀ i, i < 2 → ∃ y, xs[i]? = some y := fun i h9 => ⟨_, List.getElem?_eq_getElem (by rw [hx]; exact h9)⟩
  obtain ⟨y0, e0⟩ := hxs 0 (by omega)
  have h0 : DataW.trod enc Tryd.prog W 0 (fun _ => true) true m 3 ((cs.drop 0).take (Tryd.prog.cellsOf 3)) = some y0 := (hi 0 _ rfl).trans e0
  rw [show Tryd.prog.cellsOf 3 = 1 by kernel_rfl] at h0
  obtain ⟨y1, e1⟩ := hxs 1 (by omega)
  have h1 : DataW.trod enc Tryd.prog W 0 (fun _ => true) true m 70 ((cs.drop 1).take (Tryd.prog.cellsOf 70)) = some y1 := (hi 1 _ rfl).trans e1
  rw [show Tryd.prog.cellsOf 70 = 34 by kernel_rfl] at h1
  obtain ⟨xx, q0, wx⟩ := trod_one h0
  obtain ⟨ks, o, mk, hk, wo, wm, q1⟩ := trod_slice3 h1
  refine ⟨⟨⟨xx, ks, o, mk⟩, ⟨wx, hk, wo, wm⟩⟩, ?_⟩
  have c0 := chunk cs 0 1
  have c1 := chunk cs 1 34
  rw [List.drop_eq_nil_of_le (by omega : cs.length ≤ 1 + 34), List.append_nil] at c1
  rw [List.drop_zero] at c0
  rw [List.drop_zero] at q0
  show cs = puC ⟨xx, ks, o, mk⟩
  rw [c0, c1, q0, q1]
  rfl
theorem trod_news {fuel : Nat} {cs : List Value} {x : DataW H × List MemPlace} (h : DataW.trod enc Tryd.prog W 0 (fun _ => true) true fuel 23 cs = some x) {ts : List TypeId} {ds : List (DataW H)} {j : Nat} (h1 : ts[j]? = some 23) (h2 : ds[j]? = some x.1)
    (hsz : (DataW.weightsEach Tryd.prog ts ds).all (· ≤ reachBytes) = true) :
    ∃ (A : Option Addr) (n c : Nat) (L : Nat → ElF), cs = [.slice A n c] ∧ n ≤ c ∧ c * Tryd.prog.bytesOf 64 ≤ reachBytes ∧ (A = none → n = 0 ∧ c = 0) ∧ SArr W W.heap.size A n 36 (fun i => cellsF (L i)) := by
  obtain ⟨A, n, c, F, rfl, hnc, hby, hnil, hF, hrow⟩ := open_rows0 Tryd.underlying23 (s := 36) (by kernel_rfl) (by omega) h h1 h2 hsz
  have hch : ∃ L : Nat → ElF, ∀ i, i < n → F i = cellsF (L i) := by
    have hg : ∀ i, ∃ c : ElF, i < n → F i = cellsF c := fun i => by
      by_cases hi : i < n
      · obtain ⟨_, fuel, y, q⟩ := hF i hi
        obtain ⟨c, e⟩ := trod_fresh q
        exact ⟨c, fun _ => e⟩
      · exact ⟨default, fun h => absurd h hi⟩
    exact ⟨fun i => Classical.choose (hg i), fun i hi => Classical.choose_spec (hg i) hi⟩
  obtain ⟨L, hL⟩ := hch
  refine ⟨A, n, c, L, rfl, hnc, hby, hnil, fun h0 => ?_⟩
  obtain ⟨b, off, e, hlt, hc⟩ := hrow h0
  exact ⟨b, off, e, hlt, fun i hi => by show W.rangeAt b (off + i * 36) (cellsF (L i)); rw [← hL i hi]; exact hc i hi⟩
theorem trod_puts {fuel : Nat} {cs : List Value} {x : DataW H × List MemPlace} (h : DataW.trod enc Tryd.prog W 0 (fun _ => true) true fuel 24 cs = some x) {ts : List TypeId} {ds : List (DataW H)} {j : Nat} (h1 : ts[j]? = some 24) (h2 : ds[j]? = some x.1)
    (hsz : (DataW.weightsEach Tryd.prog ts ds).all (· ≤ reachBytes) = true) :
    ∃ (A : Option Addr) (n c : Nat) (L : Nat → ElP), cs = [.slice A n c] ∧ n ≤ c ∧ c * Tryd.prog.bytesOf 72 ≤ reachBytes ∧ (A = none → n = 0 ∧ c = 0) ∧ SArr W W.heap.size A n 35 (fun i => cellsP (L i)) := by
  obtain ⟨A, n, c, F, rfl, hnc, hby, hnil, hF, hrow⟩ := open_rows0 Tryd.underlying24 (s := 35) (by kernel_rfl) (by omega) h h1 h2 hsz
  have hch : ∃ L : Nat → ElP, ∀ i, i < n → F i = cellsP (L i) := by
    have hg : ∀ i, ∃ c : ElP, i < n → F i = cellsP c := fun i => by
      by_cases hi : i < n
      · obtain ⟨_, fuel, y, q⟩ := hF i hi
        obtain ⟨c, e⟩ := trod_put q
        exact ⟨c, fun _ => e⟩
      · exact ⟨default, fun h => absurd h hi⟩
    exact ⟨fun i => Classical.choose (hg i), fun i hi => Classical.choose_spec (hg i) hi⟩
  obtain ⟨L, hL⟩ := hch
  refine ⟨A, n, c, L, rfl, hnc, hby, hnil, fun h0 => ?_⟩
  obtain ⟨b, off, e, hlt, hc⟩ := hrow h0
  exact ⟨b, off, e, hlt, fun i hi => by show W.rangeAt b (off + i * 35) (cellsP (L i)); rw [← hL i hi]; exact hc i hi⟩
theorem trod_kind {fuel : Nat} {cs : List Value} {x : DataW H × List MemPlace} (h : DataW.trod enc Tryd.prog W 0 (fun _ => true) true fuel 22 cs = some x) : ∃ k, cs = [.int .u8 k] ∧ 0 ≤ k ∧ k < 256 := by
  obtain ⟨k, e, _, w⟩ := DataW.trod_int Tryd.underlying22 h
  exact ⟨k, e, u8_bd w⟩
def opTypes : List TypeId := [22, 3, 3, 3, 23, 24]
/-- What an op's cells and rows are. -/
structure OpIn (W : World) (v : Value) (kd x n s : Int) (A1 : Option Addr) (n1 c1 : Nat) (I : Nat → ElF) (A2 : Option Addr) (n2 c2 : Nat) (P : Nat → ElP) : Prop where
  is : v = opV kd x n s A1 n1 c1 A2 n2 c2
  kd : 0 ≤ kd ∧ kd < 256
  at_ : (Lit.int .i64 x).wf = true
  n : (Lit.int .i64 n).wf = true
  s : (Lit.int .i64 s).wf = true
  l1 : n1 ≤ 140737488355328
  l2 : n2 ≤ 140737488355328
  z1 : A1 = none → n1 = 0 ∧ c1 = 0
  z2 : A2 = none → n2 = 0 ∧ c2 = 0
  r1 : SArr W W.heap.size A1 n1 36 fun i => cellsF (I i)
  r2 : SArr W W.heap.size A2 n2 35 fun i => cellsP (P i)
set_option maxRecDepth 100000 in
theorem open_op {v : Value} {d : DataW H} {ps : List MemPlace} {base : Nat} (hok : Value.okWide Tryd.prog W .any base 26 v) (h : DataW.Trod enc Tryd.prog W 0 (fun _ => true) true 26 v d ps) {ts : List TypeId} {ds : List (DataW H)} {j : Nat} (h1 : ts[j]? = some 26) (h2 : ds[j]? = some d)
    (hsz : (DataW.weightsEach Tryd.prog ts ds).all (· ≤ reachBytes) = true) :
    ∃ kd x n s A1 n1 c1 I A2 n2 c2 P, OpIn W v kd x n s A1 n1 c1 I A2 n2 c2 P := by
  obtain ⟨cv, rfl, hsize⟩ := okWide_struct Tryd.underlying26 hok
  obtain ⟨fuel, hf⟩ := h
  obtain ⟨xs, m, rfl, hxx, hl, hx, hi⟩ := DataW.trod_struct Tryd.underlying26 hf
  obtain ⟨cs, hcs⟩ : ∃ cs, cs = cv.toList := ⟨_, rfl⟩
  have hcl : cs.length = 6 := by rw [hcs]; exact hl.trans (by kernel_rfl)
  have hi' : ∀ (i : Nat) (f : Field), _ := hi
  have hxd : d = .agg (xs.map (·.1)) := congrArg Prod.fst hxx
  have hin : (DataW.weightsEach Tryd.prog opTypes (xs.map (·.1))).all (· ≤ reachBytes) = true := List.all_eq_true.2 fun k hk => List.all_eq_true.1 hsz k (DataW.weights_mem_each h1 h2 k (by
    rw [hxd]
    unfold DataW.weights
    rw [Tryd.underlying26]
    exact hk))
  have hxs : ∀ i, i < 6 → ∃ y, xs[i]? = some y := fun i h9 => ⟨_, List.getElem?_eq_getElem (by rw [hx]; exact h9)⟩
  obtain ⟨y0, e0⟩ := hxs 0 (by omega)
  have h_0 : DataW.trod enc Tryd.prog W 0 (fun _ => true) true m 22 ((cs.drop 0).take (Tryd.prog.cellsOf 22)) = some y0 := by rw [hcs]; exact (hi 0 _ rfl).trans e0
  rw [show Tryd.prog.cellsOf 22 = 1 by kernel_rfl] at h_0
  obtain ⟨y1, e1⟩ := hxs 1 (by omega)
  have h_1 : DataW.trod enc Tryd.prog W 0 (fun _ => true) true m 3 ((cs.drop 1).take (Tryd.prog.cellsOf 3)) = some y1 := by rw [hcs]; exact (hi 1 _ rfl).trans e1
  rw [show Tryd.prog.cellsOf 3 = 1 by kernel_rfl] at h_1
  obtain ⟨y2, e2⟩ := hxs 2 (by omega)
  have h_2 : DataW.trod enc Tryd.prog W 0 (fun _ => true) true m 3 ((cs.drop 2).take (Tryd.prog.cellsOf 3)) = some y2 := by rw [hcs]; exact (hi 2 _ rfl).trans e2
  rw [show Tryd.prog.cellsOf 3 = 1 by kernel_rfl] at h_2
  obtain ⟨y3, e3⟩ := hxs 3 (by omega)
  have h_3 : DataW.trod enc Tryd.prog W 0 (fun _ => true) true m 3 ((cs.drop 3).take (Tryd.prog.cellsOf 3)) = some y3 := by rw [hcs]; exact (hi 3 _ rfl).trans e3
  rw [show Tryd.prog.cellsOf 3 = 1 by kernel_rfl] at h_3
  obtain ⟨y4, e4⟩ := hxs 4 (by omega)
  have h_4 : DataW.trod enc Tryd.prog W 0 (fun _ => true) true m 23 ((cs.drop 4).take (Tryd.prog.cellsOf 23)) = some y4 := by rw [hcs]; exact (hi 4 _ rfl).trans e4
  rw [show Tryd.prog.cellsOf 23 = 1 by kernel_rfl] at h_4
  obtain ⟨y5, e5⟩ := hxs 5 (by omega)
  have h_5 : DataW.trod enc Tryd.prog W 0 (fun _ => true) true m 24 ((cs.drop 5).take (Tryd.prog.cellsOf 24)) = some y5 := by rw [hcs]; exact (hi 5 _ rfl).trans e5
  rw [show Tryd.prog.cellsOf 24 = 1 by kernel_rfl] at h_5
  obtain ⟨kd, q0, wk⟩ := trod_kind h_0
  obtain ⟨x, q1, wx⟩ := trod_one h_1
  obtain ⟨n, q2, wn⟩ := trod_one h_2
  obtain ⟨s, q3, ws⟩ := trod_one h_3
  have g4 : (xs.map (·.1))[4]? = some y4.1 := by rw [List.getElem?_map, e4]; rfl
  have g5 : (xs.map (·.1))[5]? = some y5.1 := by rw [List.getElem?_map, e5]; rfl
  obtain ⟨A1, n1, c1, L1, q4, hnc1, hby1, nz1, r1⟩ := trod_news h_4 (ts := opTypes) (j := 4) rfl g4 hin
  obtain ⟨A2, n2, c2, L2, q5, hnc2, hby2, nz2, r2⟩ := trod_puts h_5 (ts := opTypes) (j := 5) rfl g5 hin
  have k0 := chunk cs 0 1
  have k1 := chunk cs 1 1
  have k2 := chunk cs 2 1
  have k3 := chunk cs 3 1
  have k4 := chunk cs 4 1
  have k5 := chunk cs 5 1
  rw [List.drop_eq_nil_of_le (by omega : cs.length ≤ 5 + 1), List.append_nil] at k5
  rw [List.drop_zero] at k0
  rw [List.drop_zero] at q0
  have hcells : cs = opL kd x n s A1 n1 c1 A2 n2 c2 := by
    rw [k0, k1, k2, k3, k4, k5, q0, q1, q2, q3, q4, q5]; rfl
  have b1 : Tryd.prog.bytesOf 64 = 64 := by kernel_rfl
  have b2 : Tryd.prog.bytesOf 72 = 56 := by kernel_rfl
  rw [b1] at hby1
  rw [b2] at hby2
  simp only [reachBytes] at hby1 hby2
  refine ⟨kd, x, n, s, A1, n1, c1, L1, A2, n2, c2, L2, ?_, wk, wx, wn, ws, by omega, by omega, nz1, nz2, r1, r2⟩
  show Value.agg cv = .agg (opL kd x n s A1 n1 c1 A2 n2 c2).toArray
  rw [← hcells, hcs]
end
end Go.Proofs.YthdllbbjajddiaaDoor

