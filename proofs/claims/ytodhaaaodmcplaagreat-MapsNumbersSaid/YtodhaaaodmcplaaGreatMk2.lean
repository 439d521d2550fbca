/- Maps that the call makes, whose keys are arrays of bytes and whose elements are ints: looked up and put. -/
import Derived.Test.YtodhaaaodmcplaaGreatKeep
import Derived.Maps.OwnOps
import Derived.Maps.Views
import Derived.WideKeyArr2
import Derived.ChangeKeys
import Derived.WideKeyEntry
import Derived.Maps.RangeWalk
set_option linter.all false
namespace Go.Proofs.YtodhaaaodmcplaaGreat
open Go.RowKit Go.Maps Go.WideMaps
/-- A key: N bytes. -/
structure KeyOk (N : Nat) (ks : List Int) : Prop where
  len : ks.length = N
  lo : ∀ x ∈ ks, 0 ≤ x ∧ x < 256
theorem wf_u8 {x : Int} (h : 0 ≤ x ∧ x < 256) : (Lit.int .u8 x).wf = true := by
  have hmin : IntKind.u8.min = 0 := rfl
  have hmax : IntKind.u8.max = 255 := rfl
  simp only [Lit.wf, Bool.and_eq_true, decide_eq_true_eq, hmin, hmax]
  omega
theorem wf_i64 {x : Int} (h : -9223372036854775808 ≤ x ∧ x ≤ 9223372036854775807) : (Lit.int .i64 x).wf = true := by
  have hmin : IntKind.i64.min = -9223372036854775808 := rfl
  have hmax : IntKind.i64.max = 9223372036854775807 := rfl
  simp only [Lit.wf, Bool.and_eq_true, decide_eq_true_eq, hmin, hmax]
  exact h
def kv (ks : List Int) : Value := .agg (ks.map (Value.int .u8)).toArray
def kl (ks : List Int) : Lit := .string (keyBytes (ks.map (Lit.int .u8)))
theorem mapM_all {α β : Type} {f : α → Option β} {g : α → β} : ∀ (L : List α), (∀ x ∈ L, f x = some (g x)) → L.mapM f = some (L.map g)
  | [], _ => rfl
  | x :: L, h => by
    rw [List.mapM_cons, h x (by simp), mapM_all L fun y hy => h y (by simp [hy])]
    rfl
theorem alike_bytes : ∀ (l l' : List Int), l.length = l'.length → Alike (l.map (Lit.int .u8)) (l'.map (Lit.int .u8))
  | [], [], _ => trivial
  | [], _ :: _, h => by simp at h
  | _ :: _, [], h => by simp at h
  | a :: l, b :: l', h => ⟨rfl, alike_bytes l l' (by simpa using h)⟩
theorem kl_inj {N : Nat} {l l' : List Int} (h : KeyOk N l) (h' : KeyOk N l') (e : kl l = kl l') : l = l' := by
  have e1 : keyBytes (l.map (Lit.int .u8)) = keyBytes (l'.map (Lit.int .u8)) := by
    unfold kl at e
    injection e
  have wf : ∀ {m : List Int}, KeyOk N m → ∀ a ∈ m.map (Lit.int .u8), a.keyWf := fun hm a ha => by
    obtain ⟨x, hx, rfl⟩ := List.mem_map.1 ha
    exact wf_u8 (hm.lo x hx)
  have e2 := keyBytes_inj (alike_bytes l l' (by rw [h.len, h'.len])) (wf h) (wf h') e1
  exact (List.map_inj_right fun x y h => by injection h).1 e2
section
variable {H : Type} {P : Program}
theorem keyOf_arr {k e : TypeId} {N : Nat} (A : ArrKey P k e N) (he : P.underlying e = some (.int .u8)) (hsz : ∃ m, P.types.size = m + 1) {ks : List Int} (h : KeyOk N ks) : keyOf P k (kv ks) = some (kl ks) := by
  have hkt := A.keyType hsz
  obtain ⟨m, hm⟩ := hsz
  have hl := h.len
  unfold keyOf kv kl
  simp only [A.hu]
  rw [if_pos (by simp [hkt, Value.formed, A.hu, A.size, hl]), hm]
  unfold Program.keyLits
  simp only [A.hu, Value.cells]
  rw [if_pos (by rw [A.size]; simpa using hl), A.one, mapM_all (g := fun i => [Lit.int .u8 (ks.getD i 0)])]
  · simp only [Option.map_some]
    congr 1
    congr 1
    congr 1
    apply List.ext_getElem?
    intro i
    have : ∀ (L : List Nat), (L.map fun i => [Lit.int .u8 (ks.getD i 0)]).flatten = L.map fun i => Lit.int .u8 (ks.getD i 0) := fun L => by
      induction L with
      | nil => rfl
      | cons a L ih => rw [List.map_cons, List.flatten_cons, ih]; rfl
    rw [this, List.getElem?_map, List.getElem?_map]
    by_cases hi : i < N
    · rw [List.getElem?_range hi]
      simp [show i < ks.length by omega]
    · rw [List.getElem?_eq_none (by simp; omega), List.getElem?_eq_none (by omega)]
      rfl
  · intro i hi
    have hi' : i < ks.length := by rw [hl]; exact List.mem_range.1 hi
    have e1 : ((ks.map (Value.int .u8)).drop (i * 1)).take 1 = [Value.int .u8 (ks.getD i 0)] := by
      rw [Nat.mul_one, List.drop_eq_getElem_cons (by simpa using hi')]
      simp [hi']
    show P.keyLits (m + 1) e (((ks.map (Value.int .u8)).drop (i * 1)).take 1) = _
    have wx : (Lit.int .u8 (ks.getD i 0)).wf = true := wf_u8 (by
      rw [List.getD_eq_getElem?_getD, List.getElem?_eq_getElem hi']
      exact h.lo _ (List.getElem_mem hi'))
    rw [e1]
    generalize ks.getD i 0 = x at wx
    simp [Program.keyLits, he, wx]
/-- Block B holds a map: L tells what stands at a key. -/
def Tm (P : Program) (w : World) (k e : TypeId) (N B n : Nat) (L : List Int → Option Int) : Prop :=
  ∃ D : DataW Unit, w.ownsMap P k (plainElem P e) B n D ∧ IsMap D ∧ ∀ ks, KeyOk N ks → (L ks = none → ∀ z, D.atKey (kl ks) z = z) ∧ ∀ v, L ks = some v → ∀ z, D.atKey (kl ks) z = .lit (.int .i64 v)
theorem Tm.keeps {w w' : World} {k e : TypeId} {N B n : Nat} {L : List Int → Option Int} (h : Tm P w k e N B n L) (hk : w'.heap[B]? = w.heap[B]?) : Tm P w' k e N B n L := by
  obtain ⟨D, ⟨es, clock, hb, F, hs, hD⟩, h2⟩ := h
  exact ⟨D, ⟨es, clock, hk.trans hb, F, hs, hD⟩, h2⟩
theorem Tm.lt {w : World} {k e : TypeId} {N B n : Nat} {L : List Int → Option Int} (h : Tm P w k e N B n L) : B < w.heap.size := by
  obtain ⟨D, ⟨es, clock, hb, F, hs, hD⟩, h2⟩ := h
  exact heap_lt hb
theorem Tm.mono {w : World} {k e : TypeId} {N B n n' : Nat} {L : List Int → Option Int} (h : Tm P w k e N B n L) (hn : n ≤ n') : Tm P w k e N B n' L := by
  obtain ⟨D, h1, h2⟩ := h
  exact ⟨D, h1.mono hn, h2⟩
theorem Tm.congr {w : World} {k e : TypeId} {N B n : Nat} {L L' : List Int → Option Int} (h : Tm P w k e N B n L) (hL : ∀ ks, KeyOk N ks → L ks = L' ks) : Tm P w k e N B n L' := by
  obtain ⟨D, h1, h2, h3⟩ := h
  exact ⟨D, h1, h2, fun ks hk => by rw [← hL ks hk]; exact h3 ks hk⟩
theorem tm_made (w : World) (k e : TypeId) (N : Nat) : Tm P (w.alloc (.map #[] 0)) k e N w.heap.size 0 (fun _ => none) :=
  ⟨.map [], World.ownsMap_made w _ _ _, isMap_empty, fun ks _ => ⟨fun _ _ => rfl, fun v h => by cases h⟩⟩
/-- 'v, ok := m[k]'. -/
theorem Tm.look {w : World} {t k e : TypeId} {N B n : Nat} {L : List Int → Option Int} (h : Tm P w k e N B n L) (K : Keyed P k) (ht : P.underlying t = some (.map k e)) (he : P.underlying e = some (.int .i64)) (hz : (zeroValue e).run P w = .ok (.int .i64 0) w)
    {ks : List Int} (hk : KeyOk N ks) (hkey : keyOf P k (kv ks) = some (kl ks)) (c : Bool) :
    (Instr.lookup t (.map (some B)) (kv ks) c).run P w = .ok (if c then .tuple #[.int .i64 ((L ks).getD 0), .bool (L ks).isSome] else .int .i64 ((L ks).getD 0)) w := by
  obtain ⟨D, ⟨es, clock, hb, F, hs, rfl⟩, h2, h3⟩ := h
  obtain ⟨h4, h5⟩ := h3 ks hk
  rcases Maps.fit_look c K ht hz hb F hkey with ⟨hrun, -, hat⟩ | ⟨e0, y, -, -, hrun, hRv, hat, -⟩
  · cases hL : L ks with
    | none => rw [hrun]; rfl
    | some v =>
      have e1 := h5 v hL (.lit (.bool true))
      rw [hat] at e1
      injection e1 with e1
      cases e1
  · cases hL : L ks with
    | none =>
      have e1 := h4 hL (.lit (.bool true))
      have e2 := h4 hL (.lit (.bool false))
      rw [hat] at e1 e2
      rw [e1] at e2
      injection e2 with e2
      injection e2 with e2
      cases e2
    | some v =>
      have e1 := h5 v hL (.lit (.bool true))
      rw [hat] at e1
      obtain ⟨a, e2, e3, -⟩ := plainElem_int_inv he hRv
      rw [e3] at e1
      injection e1 with e1
      injection e1 with e1 e4
      rw [hrun, e2, e4]
      rfl
theorem wpList_tm_look (w : World) {ops : Array Oper} {rest : List Oper} {o : Oper} {a : Act} {Q : Exit → Act → World → Prop} (hg : o.guard = none) (m x : Operand) (t k e : TypeId) (c : Bool) (hop : o.op = Op.lookup t m x c)
    {N B n : Nat} {L : List Int → Option Int} (h : Tm P w k e N B n L) (K : Keyed P k) (ht : P.underlying t = some (.map k e)) (he : P.underlying e = some (.int .i64)) (hz : (zeroValue e).run P w = .ok (.int .i64 0) w)
    (hm : a.eval m = .map (some B)) (ks : List Int) (hx : a.eval x = kv ks) (hk : KeyOk N ks) (hkey : keyOf P k (kv ks) = some (kl ks)) (r : Value) (hr : (if c then .tuple #[.int .i64 ((L ks).getD 0), .bool (L ks).isSome] else .int .i64 ((L ks).getD 0)) = r)
    (hK : wpList P ops Q rest (a.put o.dst r) w) : wpList P ops Q (o :: rest) a w := by
  refine wpList_plain hg fun K' hK' => ?_
  have hrun := h.look K ht he hz hk hkey c
  rw [hr] at hrun
  unfold Oper.wp
  simp [execOp, hop, hm, hx, hrun, Result.andThen]
  exact hK' _ _ hK
/-- 'm[k] = v'. -/
theorem wpList_tm_put (w : World) {ops : Array Oper} {rest : List Oper} {o : Oper} {a : Act} {Q : Exit → Act → World → Prop} (hg : o.guard = none) (m x v : Operand) (t k e : TypeId) (hop : o.op = Op.mapUpdate t m x v)
    {N B n : Nat} {L : List Int → Option Int} (h : Tm P w k e N B n L) (K : Keyed P k) (ht : P.underlying t = some (.map k e)) (he : P.underlying e = some (.int .i64)) (hn : n < maxLen)
    (hm : a.eval m = .map (some B)) (ks : List Int) (hx : a.eval x = kv ks) (hk : KeyOk N ks) (hkey : keyOf P k (kv ks) = some (kl ks)) (y : Int) (hv : a.eval v = .int .i64 y) (hy : (Lit.int .i64 y).wf = true)
    (hK : ∀ w', Tm P w' k e N B (n + 1) (fun ks' => if ks' = ks then some y else L ks') → w.grownBy w' (some B) → wpList P ops Q rest (a.put o.dst undef) w') : wpList P ops Q (o :: rest) a w := by
  obtain ⟨D, h1, h2, h3⟩ := h
  refine wpList_mapUpdate_own w hg m x v t hop k e K ht (plainElem P e) B n D hm h1 hn _ _ (kl ks) hx hv hkey (.lit (.int .i64 y)) [] (plainElem_int he hy) fun w' q1 q2 => hK w' ⟨_, q1, h2.put _ _, fun ks' hk' => ?_⟩ q2
  by_cases e1 : ks' = ks
  · subst e1
    refine ⟨fun h => by simp at h, fun v hv => ?_⟩
    have : v = y := by simpa using hv.symm
    subst this
    exact fun z => atKey_put_same h2 (by trivial) _ z
  · have hne : kl ks' ≠ kl ks := fun h => e1 (kl_inj hk' hk h)
    obtain ⟨h4, h5⟩ := h3 ks' hk'
    refine ⟨fun h z => ?_, fun v hv z => ?_⟩
    · rw [atKey_put_other hne]
      exact h4 (by simpa [e1] using h) z
    · rw [atKey_put_other hne]
      exact h5 v (by simpa [e1] using hv) z
end
end Go.Proofs.YtodhaaaodmcplaaGreat
set_option linter.all false
namespace Go.Proofs.YtodhaaaodmcplaaGreat
open Go.RowKit Go.Maps Go.WideMaps Go.WideElems Go.ChangeMaps
section
variable {P : Program}
theorem entry_mid {H : Type} {w : World} {t k e : TypeId} {R : Value → Option (DataW H × List MemPlace)} {b : Nat} {es : Array MapEntry} {clock : Nat} (K : KeyLaw P k) (ht : P.underlying t = some (.map k e)) {z : Value} (hz : ∀ u : World, (zeroValue e).run P u = .ok z u) (hb : w.heap[b]? = some (.map es clock)) (F : Fit P k R es clock)
    {key : Value} {kl : Lit} (hkey : keyOf P k key = some kl) :
    ∃ (v0 : Value) (st : Nat) (w1 : World), (Instr.mapEntry t (.map (some b)) key).run P w = .ok (.tuple #[v0, goInt st]) w1 ∧ (Instr.mapUpdate t (.map (some b)) key v0).run P w = .ok () w1 ∧ (Instr.lookup t (.map (some b)) key false).run P w = .ok v0 w := by
  rcases K.find w hkey es.toList F.keys with ⟨h1, h2⟩ | ⟨j, e0, h1, h2, h3⟩
  · refine ⟨z, clock, setBlock w b (.map (es.push ⟨key, z, clock⟩) (clock + 1)), ?_, ?_, ?_⟩
    · simp [Instr.mapEntry, run_underlying ht, MapKept.run_getObj_map hb, K.check w false hkey, h1, hz, MapKept.run_setObj_map _ hb, Result.andThen, setBlock]
    · simp [Instr.mapUpdate, run_underlying ht, MapKept.run_getObj_map hb, K.check w false hkey, h1, MapKept.run_setObj_map _ hb, Result.andThen, setBlock]
    · simp [Instr.lookup, run_underlying ht, MapKept.run_getObj_map hb, K.check w es.isEmpty hkey, h1, hz, Result.andThen]
  · have hj : es[j]? = some e0 := by simpa using h2
    have hsame : es.modify j (fun e => { e with key := key }) = es := by
      apply Array.ext'
      rw [Array.toList_modify, modify_eq_set _ _ _ _ h2]
      have : ({ e0 with key := key } : MapEntry) = e0 := by rw [← h3]
      rw [this]
      exact set_self _ _ _ h2
    have hsame2 : es.modify j (fun e' => { e' with key := key, val := e0.val }) = es := by
      apply Array.ext'
      rw [Array.toList_modify, modify_eq_set _ _ _ _ h2]
      have : ({ e0 with key := key, val := e0.val } : MapEntry) = e0 := by rw [← h3]
      rw [this]
      exact set_self _ _ _ h2
    refine ⟨e0.val, e0.born, setBlock w b (.map es clock), ?_, ?_, ?_⟩
    · simp [Instr.mapEntry, run_underlying ht, MapKept.run_getObj_map hb, K.check w false hkey, h1, hj, h3, K.stays w hkey, hsame, MapKept.run_setObj_map _ hb, Result.andThen, setBlock]
    · simp [Instr.mapUpdate, run_underlying ht, MapKept.run_getObj_map hb, K.check w false hkey, h1, hj, h3, K.stays w hkey, hsame2, MapKept.run_setObj_map _ hb, Result.andThen, setBlock]
    · simp [Instr.lookup, run_underlying ht, MapKept.run_getObj_map hb, K.check w es.isEmpty hkey, h1, hz, Result.andThen]
theorem Tm.store {w : World} {t k e : TypeId} {N B n : Nat} {L : List Int → Option Int} (h : Tm P w k e N B n L) (K : Keyed P k) (ht : P.underlying t = some (.map k e)) (he : P.underlying e = some (.int .i64)) (hn : n < maxLen)
    {ks : List Int} (hk : KeyOk N ks) (hkey : keyOf P k (kv ks) = some (kl ks)) {y : Int} (hy : (Lit.int .i64 y).wf = true) :
    ∃ w', (Instr.mapUpdate t (.map (some B)) (kv ks) (.int .i64 y)).run P w = .ok () w' ∧ Tm P w' k e N B (n + 1) (fun ks' => if ks' = ks then some y else L ks') ∧ w.grownBy w' (some B) := by
  obtain ⟨D, h1, h2, h3⟩ := h
  obtain ⟨w', hr, q1, q2⟩ := h1.update K ht hn hkey (plainElem_int he hy)
  refine ⟨w', hr, ⟨_, q1, h2.put _ _, fun ks' hk' => ?_⟩, q2⟩
  by_cases e1 : ks' = ks
  · subst e1
    refine ⟨fun h => by simp at h, fun v hv => ?_⟩
    have : v = y := by simpa using hv.symm
    subst this
    exact fun z => atKey_put_same h2 (by trivial) _ z
  · have hne : kl ks' ≠ kl ks := fun h => e1 (kl_inj hk' hk h)
    obtain ⟨h4, h5⟩ := h3 ks' hk'
    refine ⟨fun h z => ?_, fun v hv z => ?_⟩
    · rw [atKey_put_other hne]
      exact h4 (by simpa [e1] using h) z
    · rw [atKey_put_other hne]
      exact h5 v (by simpa [e1] using hv) z
/-- 'm[k] op= x': the entry, then the store. -/
theorem Tm.entry {w : World} {t k e : TypeId} {N B n : Nat} {L : List Int → Option Int} (h : Tm P w k e N B n L) (K : KeyLaw P k) (ht : P.underlying t = some (.map k e)) (he : P.underlying e = some (.int .i64)) (hz : ∀ u : World, (zeroValue e).run P u = .ok (.int .i64 0) u) (hn : n < maxLen)
    {ks : List Int} (hk : KeyOk N ks) (hkey : keyOf P k (kv ks) = some (kl ks)) (h0 : (Lit.int .i64 ((L ks).getD 0)).wf = true) :
    ∃ (st : Nat) (w1 : World), (Instr.mapEntry t (.map (some B)) (kv ks)).run P w = .ok (.tuple #[.int .i64 ((L ks).getD 0), goInt st]) w1 ∧ Tm P w1 k e N B (n + 1) (fun ks' => if ks' = ks then some ((L ks).getD 0) else L ks') ∧ w.grownBy w1 (some B) ∧
      ∀ (w2 : World) (y : Int), (Lit.int .i64 y).wf = true → w2.heap[B]? = w1.heap[B]? → ∃ w3, (Instr.entryStore t (.map (some B)) (goInt st) (.int .i64 y)).run P w2 = .ok () w3 ∧ Tm P w3 k e N B (n + 1) (fun ks' => if ks' = ks then some y else L ks') ∧ w2.grownBy w3 (some B) := by
  have hl := h.look (Keyed.of_law K) ht he (hz w) hk hkey false
  have hst := fun (y : Int) (hy : (Lit.int .i64 y).wf = true) => h.store (Keyed.of_law K) ht he hn hk hkey hy
  obtain ⟨D, ⟨es, clock, hb, F, hs, rfl⟩, h2, h3⟩ := h
  obtain ⟨v0, st, w1, r1, r2, r3⟩ := entry_mid K ht hz hb F hkey
  obtain ⟨v0', st', es1, clock1, q1, -, q3⟩ := entry_then_store K ht hz hb F hkey
  rw [hl] at r3
  simp only [Bool.false_eq_true, if_false] at r3
  injection r3 with r3 _
  subst r3
  rw [r1] at q1
  injection q1 with q1 q2
  injection q1 with q1
  have q4 : st = st' := by
    have := congrArg (fun a : Array Value => a[1]?) q1
    have h9 : (st : Int) = st' := by simpa [goInt] using this
    exact Int.ofNat.inj h9
  subst q4
  obtain ⟨wa, ra, ta, ga⟩ := hst _ h0
  rw [r2] at ra
  injection ra with _ ra
  subst ra
  refine ⟨st, w1, r1, ta, ga, fun w2 y hy hw2 => ?_⟩
  have hb1 : w1.heap[B]? = some (.map es1 clock1) := by rw [q2]; exact heap_setBlock_same hb _
  obtain ⟨es', clock', s1, s2⟩ := q3 w2 (.int .i64 y) (hw2.trans hb1)
  obtain ⟨wb, rb, tb, gb⟩ := hst y hy
  rw [s2] at rb
  injection rb with _ rb
  refine ⟨_, s1, tb.keeps ?_, ⟨rfl, rfl, rfl, by simp [setBlock], fun i _ hi => heap_setBlock_other (hw2.trans hb1) _ (fun e => hi (by rw [e]))⟩⟩
  rw [← rb, heap_setBlock_same hb, heap_setBlock_same (hw2.trans hb1)]
theorem wp_tm_look (w : World) {o : Oper} {a : Act} {K' : Act → World → Prop} {Q : Exit → Act → World → Prop} (m x : Operand) (t k e : TypeId) (hop : o.op = Op.lookup t m x false)
    {N B n : Nat} {L : List Int → Option Int} (h : Tm P w k e N B n L) (K : KeyLaw P k) (ht : P.underlying t = some (.map k e)) (he : P.underlying e = some (.int .i64)) (hz : ∀ u : World, (zeroValue e).run P u = .ok (.int .i64 0) u)
    (hm : a.eval m = .map (some B)) (ks : List Int) (hx : a.eval x = kv ks) (hk : KeyOk N ks) (hkey : keyOf P k (kv ks) = some (kl ks)) (r : Int) (hr : (L ks).getD 0 = r)
    (hK : K' (a.put o.dst (.int .i64 r)) w) : o.wp P a w K' Q := by
  have hrun := h.look (Keyed.of_law K) ht he (hz w) hk hkey false
  simp only [Bool.false_eq_true, if_false, hr] at hrun
  unfold Oper.wp
  simp [execOp, hop, hm, hx, hrun, Result.andThen]
  exact hK
theorem wp_tm_entry (w : World) {o : Oper} {a : Act} {K' : Act → World → Prop} {Q : Exit → Act → World → Prop} (m x : Operand) (t : TypeId) (hop : o.op = Op.mapEntry t m x) {B : Nat} (key v : Value) (w1 : World)
    (hrun : (Instr.mapEntry t (.map (some B)) key).run P w = .ok v w1) (hm : a.eval m = .map (some B)) (hx : a.eval x = key) (hK : K' (a.put o.dst v) w1) : o.wp P a w K' Q := by
  unfold Oper.wp
  simp [execOp, hop, hm, hx, hrun, Result.andThen]
  exact hK
theorem wp_tm_entryStore (w : World) {o : Oper} {a : Act} {K' : Act → World → Prop} {Q : Exit → Act → World → Prop} (m s x : Operand) (t : TypeId) (hop : o.op = Op.entryStore t m s x) {B : Nat} (st v : Value) (w1 : World)
    (hrun : (Instr.entryStore t (.map (some B)) st v).run P w = .ok () w1) (hm : a.eval m = .map (some B)) (hs : a.eval s = st) (hx : a.eval x = v) (hK : K' (a.put o.dst undef) w1) : o.wp P a w K' Q := by
  unfold Oper.wp
  simp [execOp, hop, hm, hs, hx, hrun, Result.andThen]
  exact hK
theorem keyLits_byte {m : Nat} {e : TypeId} (he : P.underlying e = some (.int .u8)) {c : Value} {l : List Lit} (h : P.keyLits (m + 1) e [c] = some l) : ∃ x, c = .int .u8 x ∧ (0 ≤ x ∧ x < 256) := by
  unfold Program.keyLits at h
  simp only [he] at h
  cases c with
  | int q x =>
    simp only at h
    by_cases hc : q = .u8 ∧ (Lit.int .u8 x).wf = true
    · refine ⟨x, by rw [hc.1], ?_⟩
      have := hc.2
      have hmin : IntKind.u8.min = 0 := rfl
      have hmax : IntKind.u8.max = 255 := rfl
      simp only [Lit.wf, Bool.and_eq_true, decide_eq_true_eq, hmin, hmax] at this
      omega
    · rw [if_neg hc] at h; cases h
  | _ => simp at h
theorem mapM_some {α β : Type} {f : α → Option β} : ∀ {L : List α} {r : List β}, L.mapM f = some r → ∀ x ∈ L, ∃ y, f x = some y
  | [], _, _, x, hx => by simp at hx
  | a :: L, r, h, x, hx => by
    rw [List.mapM_cons] at h
    simp only [bind, Option.bind_eq_some_iff, pure] at h
    obtain ⟨y, hy, r', hr', _⟩ := h
    rcases List.mem_cons.1 hx with rfl | hx
    · exact ⟨y, hy⟩
    · exact mapM_some hr' x hx
/-- What reads as a key: bytes. -/
theorem keyOf_arr_inv {k e : TypeId} {N : Nat} (A : ArrKey P k e N) (he : P.underlying e = some (.int .u8)) (hsz : ∃ m, P.types.size = m + 1) {v : Value} {l : Lit} (h : keyOf P k v = some l) : ∃ ks, KeyOk N ks ∧ v = kv ks := by
  obtain ⟨m, hm⟩ := hsz
  unfold keyOf at h
  simp only [A.hu] at h
  split at h
  · rename_i hc
    simp only [Bool.and_eq_true] at hc
    cases v with
    | agg cs =>
      have hl : cs.size = N := by
        have := hc.2
        simp only [Value.formed, A.hu, beq_iff_eq] at this
        rw [this, A.size]
      rw [hm] at h
      simp only [Option.map_eq_some_iff] at h
      obtain ⟨ls, h, _⟩ := h
      unfold Program.keyLits at h
      simp only [A.hu, Value.cells] at h
      rw [if_pos (by rw [A.size]; simpa using hl), A.one] at h
      simp only [Option.map_eq_some_iff] at h
      obtain ⟨lss, h, _⟩ := h
      have hb : ∀ i (hi : i < N), ∃ x, cs.toList[i]'(by simpa [hl] using hi) = .int .u8 x ∧ (0 ≤ x ∧ x < 256) := fun i hi => by
        obtain ⟨y, hy⟩ := mapM_some h i (List.mem_range.2 hi)
        rw [Nat.mul_one, List.drop_eq_getElem_cons (by simpa [hl] using hi)] at hy
        exact keyLits_byte he hy
      refine ⟨(List.range N).map fun i => if hi : i < N then Classical.choose (hb i hi) else 0, ⟨by simp, fun x hx => ?_⟩, ?_⟩
      · obtain ⟨i, hi, rfl⟩ := List.mem_map.1 hx
        have hi := List.mem_range.1 hi
        rw [dif_pos hi]
        exact (Classical.choose_spec (hb i hi)).2
      · unfold kv
        congr 1
        apply Array.toList_inj.1
        apply List.ext_getElem (by simp [hl])
        intro i h1 h2
        have hi : i < N := by simpa [hl] using h1
        simp only [List.getElem_map, List.getElem_range]
        rw [dif_pos hi]
        exact (Classical.choose_spec (hb i hi)).1
    | _ => simp [Value.formed, A.hu] at hc
  · cases h
theorem sameKey_kl {N : Nat} {a b : List Int} (ha : KeyOk N a) (hb : KeyOk N b) : (kl a).sameKey (kl b) = decide (a = b) := by
  have e : (kl a).sameKey (kl b) = (keyBytes (a.map (Lit.int .u8)) == keyBytes (b.map (Lit.int .u8))) := rfl
  rw [e]
  by_cases h : a = b
  · rw [h]; simp
  · rw [decide_eq_false h, beq_eq_false_iff_ne]
    intro h2
    exact h (kl_inj ha hb (congrArg Lit.string h2))
/-- 'for k, v := range m' under way: what has been met. -/
structure TmR (P : Program) (w : World) (k e : TypeId) (N B r n : Nat) (L : List Int → Option Int) (met : List (List Int × Int)) (cnt : Nat) : Prop where
  it : ∃ (D : DataW Unit) (left : Lit → Bool), w.ranges P k (plainElem P e) B r n D left cnt ∧ (∀ ks, KeyOk N ks → (left (kl ks) = true ↔ (L ks).isSome = true ∧ ks ∉ met.map Prod.fst)) ∧ ∀ ks v, KeyOk N ks → L ks = some v → ∀ z, D.atKey (kl ks) z = .lit (.int .i64 v)
  keys : ∀ p ∈ met, KeyOk N p.1 ∧ L p.1 = some p.2 ∧ (Lit.int .i64 p.2).wf = true
  nodup : (met.map Prod.fst).Nodup
  all : cnt + met.length ≤ n
theorem wpList_tm_range (w : World) {ops : Array Oper} {rest : List Oper} {o : Oper} {a : Act} {Q : Exit → Act → World → Prop} (hg : o.guard = none) (m : Operand) (t k e : TypeId) (hop : o.op = Op.range t m)
    {N B n : Nat} {L : List Int → Option Int} (h : Tm P w k e N B n L) (K : Keyed P k) (ht : P.underlying t = some (.map k e)) (hm : a.eval m = .map (some B))
    (hK : ∀ w' cnt, TmR P w' k e N B w.heap.size n L [] cnt → Below w.heap.size w w' → w'.heap.size = w.heap.size + 1 → wpList P ops Q rest (a.put o.dst (.pointer (some ⟨w.heap.size, 0, none⟩))) w') : wpList P ops Q (o :: rest) a w := by
  obtain ⟨D, h1, h2, h3⟩ := h
  refine wpList_range_own w hg m t hop k e K ht (plainElem P e) B n D hm h1 fun w' q1 q2 q3 => hK w' _ ⟨⟨D, _, q1, fun ks hk => ?_, fun ks v hk hv => (h3 ks hk).2 v hv⟩, fun p hp => by simp at hp, List.nodup_nil, ?_⟩ ((Below.refl _ _).grown q2 (Nat.le_refl _) (fun _ e => by cases e)) q3
  · cases hL : L ks with
    | none => simp [has_false_of_atKey ((h3 ks hk).1 hL)]
    | some v => simp [has_true_of_atKey ((h3 ks hk).2 v hL)]
  · obtain ⟨es, clock, _, F, hs, rfl⟩ := h1
    have e1 : ∀ l : List (Lit × DataW Unit), size (DataW.map l) = l.length := fun _ => rfl
    rw [e1, length_sorted]
    simpa using hs
theorem wpList_tm_next (w : World) {ops : Array Oper} {rest : List Oper} {o : Oper} {a : Act} {Q : Exit → Act → World → Prop} (hg : o.guard = none) (it : Operand) (hop : o.op = Op.next it false) (k e be : TypeId)
    {N B r n cnt : Nat} {L : List Int → Option Int} {met : List (List Int × Int)} (h : TmR P w k e N B r n L met cnt) (A : ArrKey P k be N) (hbe : P.underlying be = some (.int .u8)) (hsz : ∃ m, P.types.size = m + 1) (he : P.underlying e = some (.int .i64))
    (hit : a.eval it = .pointer (some ⟨r, 0, none⟩))
    (hDone : (∀ ks v, KeyOk N ks → L ks = some v → ks ∈ met.map Prod.fst) → wpList P ops Q rest (a.put o.dst (.tuple #[.bool false])) w)
    (hMore : ∀ (ks : List Int) (x : Int) (w' : World) (cnt' : Nat), KeyOk N ks → (Lit.int .i64 x).wf = true → TmR P w' k e N B r n L (met ++ [(ks, x)]) cnt' → cnt' < cnt → (∀ i, i < w.heap.size → i ≠ r → w'.heap[i]? = w.heap[i]?) → w.grownBy w' (some r) → w'.heap.size = w.heap.size →
      (Instr.entry (.pointer (some ⟨r, 0, none⟩))).run P w' = .ok (.tuple #[kv ks, .int .i64 x]) w' → wpList P ops Q rest (a.put o.dst (.tuple #[.bool true, kv ks, .int .i64 x])) w') : wpList P ops Q (o :: rest) a w := by
  obtain ⟨⟨D, left, h1, h2, h3⟩, hkeys, hnd, hall⟩ := h
  refine wpList_next_ranges (α := List Int) (β := Int) w hg it hop k (Keyed.of_law A.law) (plainElem P e) kv (Value.int .i64) (fun key kl' hkey => ?_) (fun v y hv => ?_) B r n D left cnt hit h1 (fun h0 hl => hDone fun ks v hk hL => ?_) (fun ks x kl' y w' cnt' hkey hl hv hat hr hlt hgr hsz2 hen => ?_)
  · obtain ⟨ks, _, e1⟩ := keyOf_arr_inv A hbe hsz hkey
    exact ⟨ks, e1⟩
  · obtain ⟨c, e1, _, _⟩ := plainElem_int_inv he hv
    exact ⟨c, e1⟩
  · have := hl (kl ks)
    by_cases hm : ks ∈ met.map Prod.fst
    · exact hm
    · have h4 := (h2 ks hk).2 ⟨by rw [hL]; rfl, hm⟩
      rw [this] at h4; cases h4
  · obtain ⟨ks', hk', e1⟩ := keyOf_arr_inv A hbe hsz hkey
    have hks : ks = ks' := by
      unfold kv at e1
      injection e1 with e1
      have e2 := congrArg Array.toList e1
      simp only at e2
      exact (List.map_inj_right fun x y h => by injection h).1 e2
    subst hks
    have hkl : kl' = kl ks := by
      have := keyOf_arr A hbe hsz hk'
      rw [hkey] at this
      injection this
    subst hkl
    obtain ⟨c, ec, ey, hwc⟩ := plainElem_int_inv he hv
    injection ec with _ ec
    subst ec
    have hLs : L ks = some x := by
      cases hL : L ks with
      | none =>
        have := ((h2 ks hk').1 hl).1
        rw [hL] at this; cases this
      | some v =>
        have q1 := h3 ks v hk' hL (.lit (.bool true))
        rw [hat, ey] at q1
        injection q1 with q1
        injection q1 with _ q1
        rw [q1]
    have hnm : ks ∉ met.map Prod.fst := ((h2 ks hk').1 hl).2
    refine hMore ks x w' cnt' hk' hwc ⟨⟨D, _, hr, fun ks2 hk2 => ?_, h3⟩, fun p hp => ?_, ?_, ?_⟩ hlt (fun i hi hne => hgr.block i hi (fun e => hne (by injection e))) hgr hsz2 hen
    · rw [Bool.and_eq_true, h2 ks2 hk2, sameKey_kl hk2 hk']
      simp only [List.map_append, List.map_cons, List.map_nil, List.mem_append, List.mem_singleton, not_or, Bool.not_eq_true', decide_eq_false_iff_not]
      exact ⟨fun h => ⟨h.1.1, h.1.2, h.2⟩, fun h => ⟨⟨h.1, h.2.1⟩, h.2.2⟩⟩
    · rcases List.mem_append.1 hp with hp | hp
      · exact hkeys p hp
      · obtain rfl := List.mem_singleton.1 hp
        exact ⟨hk', hLs, hwc⟩
    · rw [List.map_append, List.nodup_append]
      refine ⟨hnd, by simp, fun a ha b hb => ?_⟩
      simp at hb
      subst hb
      exact fun e => hnm (e ▸ ha)
    · simp only [List.length_append, List.length_cons, List.length_nil]
      omega
theorem TmR.keeps {w w' : World} {k e : TypeId} {N B r n cnt : Nat} {L : List Int → Option Int} {met : List (List Int × Int)} (h : TmR P w k e N B r n L met cnt) (h1 : w'.heap[B]? = w.heap[B]?) (h2 : w'.heap[r]? = w.heap[r]?) : TmR P w' k e N B r n L met cnt := by
  obtain ⟨⟨D, left, ⟨es, clock, since, seen, c0, q1, q2, q3, q4, q5, q6⟩, q7⟩, hk, hn, ha⟩ := h
  exact ⟨⟨D, left, ⟨es, clock, since, seen, c0, h1.trans q1, q2, q3, q4, h2.trans q5, q6⟩, q7⟩, hk, hn, ha⟩
theorem TmR.lt {w : World} {k e : TypeId} {N B r n cnt : Nat} {L : List Int → Option Int} {met : List (List Int × Int)} (h : TmR P w k e N B r n L met cnt) : B < w.heap.size ∧ r < w.heap.size := by
  obtain ⟨⟨D, left, ⟨es, clock, since, seen, c0, q1, q2, q3, q4, q5, q6⟩, q7⟩, hk, hn, ha⟩ := h
  exact ⟨heap_lt q1, heap_lt q5⟩
theorem TmR.left_eq {w : World} {k e : TypeId} {N B r n cnt : Nat} {L : List Int → Option Int} {met : List (List Int × Int)} (h : TmR P w k e N B r n L met cnt) : w.rangeLeft B r = cnt := by
  obtain ⟨⟨D, left, h1, _⟩, _⟩ := h
  exact h1.left_eq
end
end Go.Proofs.YtodhaaaodmcplaaGreat
