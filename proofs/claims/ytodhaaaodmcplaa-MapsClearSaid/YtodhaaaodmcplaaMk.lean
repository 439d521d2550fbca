/- Maps that the call makes, whose keys are arrays of bytes and whose elements are ints: looked up and put. -/
import Derived.Test.YtodhaaaodmcplaaKeep
import Derived.Maps.OwnOps
import Derived.Maps.Views
import Derived.WideKeyArr2
import Derived.ChangeKeys
set_option linter.all false
namespace Go.Proofs.Ytodhaaaodmcplaa
open Go.RowKit Go.Maps Go.WideMaps
/-- A key: N bytes. -/
structure KeyOk (N : Nat) (ks : List Int) : Prop where
  len : ks.length = N
  lo : ∀ x ∈ ks, 0 ≤ x ∧ x < 256
theorem wf_u8 {x : Int} (h : 0 ≤ x ∧ x < 256) : (Lit.int .u8 x).wf = true := by
  have hmin : IntKind.u8.min = 0 := rfl
  have hmax : IntKind.u8.max = 255 := rfl
  simp only [Lit.wf, Bool.and_eq_true, decide_eq_true_eq, hmin, hmax]
  omega
theorem wf_i64 {x : Int} (h : -9223372036854775808 ≤ x ∧ x ≤ 9223372036854775807) : (Lit.int .i64 x).wf = true := by
  have hmin : IntKind.i64.min = -9223372036854775808 := rfl
  have hmax : IntKind.i64.max = 9223372036854775807 := rfl
  simp only [Lit.wf, Bool.and_eq_true, decide_eq_true_eq, hmin, hmax]
  exact h
def kv (ks : List Int) : Value := .agg (ks.map (Value.int .u8)).toArray
def kl (ks : List Int) : Lit := .string (keyBytes (ks.map (Lit.int .u8)))
theorem mapM_all {α β : Type} {f : α → Option β} {g : α → β} : ∀ (L : List α), (∀ x ∈ L, f x = some (g x)) → L.mapM f = some (L.map g)
  | [], _ => rfl
  | x :: L, h => by
    rw [List.mapM_cons, h x (by simp), mapM_all L fun y hy => h y (by simp [hy])]
    rfl
theorem alike_bytes : ∀ (l l' : List Int), l.length = l'.length → Alike (l.map (Lit.int .u8)) (l'.map (Lit.int .u8))
  | [], [], _ => trivial
  | [], _ :: _, h => by simp at h
  | _ :: _, [], h => by simp at h
  | a :: l, b :: l', h => ⟨rfl, alike_bytes l l' (by simpa using h)⟩
theorem kl_inj {N : Nat} {l l' : List Int} (h : KeyOk N l) (h' : KeyOk N l') (e : kl l = kl l') : l = l' := by
  have e1 : keyBytes (l.map (Lit.int .u8)) = keyBytes (l'.map (Lit.int .u8)) := by
    unfold kl at e
    injection e
  have wf : ∀ {m : List Int}, KeyOk N m → ∀ a ∈ m.map (Lit.int .u8), a.keyWf := fun hm a ha => by
    obtain ⟨x, hx, rfl⟩ := List.mem_map.1 ha
    exact wf_u8 (hm.lo x hx)
  have e2 := keyBytes_inj (alike_bytes l l' (by rw [h.len, h'.len])) (wf h) (wf h') e1
  exact (List.map_inj_right fun x y h => by injection h).1 e2
section
variable {H : Type} {P : Program}
theorem keyOf_arr {k e : TypeId} {N : Nat} (A : ArrKey P k e N) (he : P.underlying e = some (.int .u8)) (hsz : ∃ m, P.types.size = m + 1) {ks : List Int} (h : KeyOk N ks) : keyOf P k (kv ks) = some (kl ks) := by
  have hkt := A.keyType hsz
  obtain ⟨m, hm⟩ := hsz
  have hl := h.len
  unfold keyOf kv kl
  simp only [A.hu]
  rw [if_pos (by simp [hkt, Value.formed, A.hu, A.size, hl]), hm]
  unfold Program.keyLits
  simp only [A.hu, Value.cells]
  rw [if_pos (by rw [A.size]; simpa using hl), A.one, mapM_all (g := fun i => [Lit.int .u8 (ks.getD i 0)])]
  · simp only [Option.map_some]
    congr 1
    congr 1
    congr 1
    apply List.ext_getElem?
    intro i
    have : ∀ (L : List Nat), (L.map fun i => [Lit.int .u8 (ks.getD i 0)]).flatten = L.map fun i => Lit.int .u8 (ks.getD i 0) := fun L => by
      induction L with
      | nil => rfl
      | cons a L ih => rw [List.map_cons, List.flatten_cons, ih]; rfl
    rw [this, List.getElem?_map, List.getElem?_map]
    by_cases hi : i < N
    · rw [List.getElem?_range hi]
      simp [show i < ks.length by omega]
    · rw [List.getElem?_eq_none (by simp; omega), List.getElem?_eq_none (by omega)]
      rfl
  · intro i hi
    have hi' : i < ks.length := by rw [hl]; exact List.mem_range.1 hi
    have e1 : ((ks.map (Value.int .u8)).drop (i * 1)).take 1 = [Value.int .u8 (ks.getD i 0)] := by
      rw [Nat.mul_one, List.drop_eq_getElem_cons (by simpa using hi')]
      simp [hi']
    show P.keyLits (m + 1) e (((ks.map (Value.int .u8)).drop (i * 1)).take 1) = _
    have wx : (Lit.int .u8 (ks.getD i 0)).wf = true := wf_u8 (by
      rw [List.getD_eq_getElem?_getD, List.getElem?_eq_getElem hi']
      exact h.lo _ (List.getElem_mem hi'))
    rw [e1]
    generalize ks.getD i 0 = x at wx
    simp [Program.keyLits, he, wx]
/-- Block B holds a map: L tells what stands at a key. -/
def Tm (P : Program) (w : World) (k e : TypeId) (N B n : Nat) (L : List Int → Option Int) : Prop :=
  ∃ D : DataW Unit, w.ownsMap P k (plainElem P e) B n D ∧ IsMap D ∧ ∀ ks, KeyOk N ks → (L ks = none → ∀ z, D.atKey (kl ks) z = z) ∧ ∀ v, L ks = some v → ∀ z, D.atKey (kl ks) z = .lit (.int .i64 v)
theorem Tm.keeps {w w' : World} {k e : TypeId} {N B n : Nat} {L : List Int → Option Int} (h : Tm P w k e N B n L) (hk : w'.heap[B]? = w.heap[B]?) : Tm P w' k e N B n L := by
  obtain ⟨D, ⟨es, clock, hb, F, hs, hD⟩, h2⟩ := h
  exact ⟨D, ⟨es, clock, hk.trans hb, F, hs, hD⟩, h2⟩
theorem Tm.lt {w : World} {k e : TypeId} {N B n : Nat} {L : List Int → Option Int} (h : Tm P w k e N B n L) : B < w.heap.size := by
  obtain ⟨D, ⟨es, clock, hb, F, hs, hD⟩, h2⟩ := h
  exact heap_lt hb
theorem Tm.mono {w : World} {k e : TypeId} {N B n n' : Nat} {L : List Int → Option Int} (h : Tm P w k e N B n L) (hn : n ≤ n') : Tm P w k e N B n' L := by
  obtain ⟨D, h1, h2⟩ := h
  exact ⟨D, h1.mono hn, h2⟩
theorem Tm.congr {w : World} {k e : TypeId} {N B n : Nat} {L L' : List Int → Option Int} (h : Tm P w k e N B n L) (hL : ∀ ks, KeyOk N ks → L ks = L' ks) : Tm P w k e N B n L' := by
  obtain ⟨D, h1, h2, h3⟩ := h
  exact ⟨D, h1, h2, fun ks hk => by rw [← hL ks hk]; exact h3 ks hk⟩
theorem tm_made (w : World) (k e : TypeId) (N : Nat) : Tm P (w.alloc (.map #[] 0)) k e N w.heap.size 0 (fun _ => none) :=
  ⟨.map [], World.ownsMap_made w _ _ _, isMap_empty, fun ks _ => ⟨fun _ _ => rfl, fun v h => by cases h⟩⟩
/-- 'v, ok := m[k]'. -/
theorem Tm.look {w : World} {t k e : TypeId} {N B n : Nat} {L : List Int → Option Int} (h : Tm P w k e N B n L) (K : Keyed P k) (ht : P.underlying t = some (.map k e)) (he : P.underlying e = some (.int .i64)) (hz : (zeroValue e).run P w = .ok (.int .i64 0) w)
    {ks : List Int} (hk : KeyOk N ks) (hkey : keyOf P k (kv ks) = some (kl ks)) (c : Bool) :
    (Instr.lookup t (.map (some B)) (kv ks) c).run P w = .ok (if c then .tuple #[.int .i64 ((L ks).getD 0), .bool (L ks).isSome] else .int .i64 ((L ks).getD 0)) w := by
  obtain ⟨D, ⟨es, clock, hb, F, hs, rfl⟩, h2, h3⟩ := h
  obtain ⟨h4, h5⟩ := h3 ks hk
  rcases Maps.fit_look c K ht hz hb F hkey with ⟨hrun, -, hat⟩ | ⟨e0, y, -, -, hrun, hRv, hat, -⟩
  · cases hL : L ks with
    | none => rw [hrun]; rfl
    | some v =>
      have e1 := h5 v hL (.lit (.bool true))
      rw [hat] at e1
      injection e1 with e1
      cases e1
  · cases hL : L ks with
    | none =>
      have e1 := h4 hL (.lit (.bool true))
      have e2 := h4 hL (.lit (.bool false))
      rw [hat] at e1 e2
      rw [e1] at e2
      injection e2 with e2
      injection e2 with e2
      cases e2
    | some v =>
      have e1 := h5 v hL (.lit (.bool true))
      rw [hat] at e1
      obtain ⟨a, e2, e3, -⟩ := plainElem_int_inv he hRv
      rw [e3] at e1
      injection e1 with e1
      injection e1 with e1 e4
      rw [hrun, e2, e4]
      rfl
theorem wpList_tm_look (w : World) {ops : Array Oper} {rest : List Oper} {o : Oper} {a : Act} {Q : Exit → Act → World → Prop} (hg : o.guard = none) (m x : Operand) (t k e : TypeId) (c : Bool) (hop : o.op = Op.lookup t m x c)
    {N B n : Nat} {L : List Int → Option Int} (h : Tm P w k e N B n L) (K : Keyed P k) (ht : P.underlying t = some (.map k e)) (he : P.underlying e = some (.int .i64)) (hz : (zeroValue e).run P w = .ok (.int .i64 0) w)
    (hm : a.eval m = .map (some B)) (ks : List Int) (hx : a.eval x = kv ks) (hk : KeyOk N ks) (hkey : keyOf P k (kv ks) = some (kl ks)) (r : Value) (hr : (if c then .tuple #[.int .i64 ((L ks).getD 0), .bool (L ks).isSome] else .int .i64 ((L ks).getD 0)) = r)
    (hK : wpList P ops Q rest (a.put o.dst r) w) : wpList P ops Q (o :: rest) a w := by
  refine wpList_plain hg fun K' hK' => ?_
  have hrun := h.look K ht he hz hk hkey c
  rw [hr] at hrun
  unfold Oper.wp
  simp [execOp, hop, hm, hx, hrun, Result.andThen]
  exact hK' _ _ hK
/-- 'm[k] = v'. -/
theorem wpList_tm_put (w : World) {ops : Array Oper} {rest : List Oper} {o : Oper} {a : Act} {Q : Exit → Act → World → Prop} (hg : o.guard = none) (m x v : Operand) (t k e : TypeId) (hop : o.op = Op.mapUpdate t m x v)
    {N B n : Nat} {L : List Int → Option Int} (h : Tm P w k e N B n L) (K : Keyed P k) (ht : P.underlying t = some (.map k e)) (he : P.underlying e = some (.int .i64)) (hn : n < maxLen)
    (hm : a.eval m = .map (some B)) (ks : List Int) (hx : a.eval x = kv ks) (hk : KeyOk N ks) (hkey : keyOf P k (kv ks) = some (kl ks)) (y : Int) (hv : a.eval v = .int .i64 y) (hy : (Lit.int .i64 y).wf = true)
    (hK : ∀ w', Tm P w' k e N B (n + 1) (fun ks' => if ks' = ks then some y else L ks') → w.grownBy w' (some B) → wpList P ops Q rest (a.put o.dst undef) w') : wpList P ops Q (o :: rest) a w := by
  obtain ⟨D, h1, h2, h3⟩ := h
  refine wpList_mapUpdate_own w hg m x v t hop k e K ht (plainElem P e) B n D hm h1 hn _ _ (kl ks) hx hv hkey (.lit (.int .i64 y)) [] (plainElem_int he hy) fun w' q1 q2 => hK w' ⟨_, q1, h2.put _ _, fun ks' hk' => ?_⟩ q2
  by_cases e1 : ks' = ks
  · subst e1
    refine ⟨fun h => by simp at h, fun v hv => ?_⟩
    have : v = y := by simpa using hv.symm
    subst this
    exact fun z => atKey_put_same h2 (by trivial) _ z
  · have hne : kl ks' ≠ kl ks := fun h => e1 (kl_inj hk' hk h)
    obtain ⟨h4, h5⟩ := h3 ks' hk'
    refine ⟨fun h z => ?_, fun v hv z => ?_⟩
    · rw [atKey_put_other hne]
      exact h4 (by simpa [e1] using h) z
    · rw [atKey_put_other hne]
      exact h5 v (by simpa [e1] using hv) z
end
end Go.Proofs.Ytodhaaaodmcplaa
