/- Large structs kept whole: == told cell by cell, builds, loads in the midst, results. -/
import Derived.Test.YtodhaaaodmcplaaGreatKeep
import Derived.DeepKeys
import Derived.WalkKit
import Derived.BigQuiet
import Derived.Deep.QuietTactic
import Derived.Deep.RegionHeld3
import Derived.Deep.CutBlock
import Derived.Deep.MidRow
import Derived.Laws.ResultCell
import Derived.Lib.Hide
set_option linter.all false
namespace Go.Proofs.YtodhaaaodmcplaaGreat
open Go.RowKit
def toLit : Value → Lit
  | .int k z => .int k z
  | _ => .bool false
/-- Cells are numbers of these kinds. -/
def Fits : List Value → List IntKind → Prop
  | [], [] => True
  | v :: vs, k :: ks => (∃ z, v = .int k z ∧ (Lit.int k z).wf = true) ∧ Fits vs ks
  | _, _ => False
theorem Fits.length : ∀ {cs : List Value} {ks : List IntKind}, Fits cs ks → cs.length = ks.length
  | [], [], _ => rfl
  | _ :: _, _ :: _, h => by simp [Fits.length h.2]
  | [], _ :: _, h => h.elim
  | _ :: _, [], h => h.elim
theorem Fits.split : ∀ {k1 k2 : List IntKind} {cs : List Value}, Fits cs (k1 ++ k2) → Fits (cs.take k1.length) k1 ∧ Fits (cs.drop k1.length) k2
  | [], _, _, h => ⟨by simp [Fits], by simpa using h⟩
  | k :: k1, k2, [], h => h.elim
  | k :: k1, k2, v :: vs, h => by
    obtain ⟨h1, h2⟩ := Fits.split (k1 := k1) (k2 := k2) h.2
    exact ⟨⟨h.1, h1⟩, h2⟩
theorem Fits.join : ∀ {k1 k2 : List IntKind} {c1 c2 : List Value}, Fits c1 k1 → Fits c2 k2 → Fits (c1 ++ c2) (k1 ++ k2)
  | [], _, [], _, _, h => h
  | _ :: _, _, _ :: _, _, h1, h2 => ⟨h1.1, Fits.join h1.2 h2⟩
  | [], _, _ :: _, _, h, _ => h.elim
  | _ :: _, _, [], _, h, _ => h.elim
/-- Do fields follow each other? -/
def offsOk (P : Program) : Nat → List Field → Bool
  | _, [] => true
  | o, f :: fs => f.offset == o && f.name != "_" && offsOk P (o + P.cellsOf f.type) fs
/-- The kinds of a type's cells. -/
def leafs (P : Program) : Nat → TypeId → Option (List IntKind)
  | 0, _ => none
  | d + 1, t =>
    match P.underlying t with
    | some (.int q) => some [q]
    | some (.array n e) =>
      match leafs P d e with
      | some ks => if ks.length = P.cellsOf e ∧ n * P.cellsOf e = P.cellsOf t then some (List.replicate n ks).flatten else none
      | none => none
    | some (.struct fs) =>
      match fs.toList.mapM fun f => (leafs P d f.type).bind fun ks => if ks.length = P.cellsOf f.type then some ks else none with
      | some kss => if offsOk P 0 fs.toList = true ∧ kss.flatten.length = P.cellsOf t then some kss.flatten else none
      | none => none
    | _ => none
theorem mapM_parts {P : Program} {d : Nat} {e : TypeId} {ks : List IntKind} (hl : ks.length = P.cellsOf e) (ih : ∀ cs, Fits cs ks → P.keyLits d e cs = some (cs.map toLit)) (cs : List Value) :
    ∀ n, Fits (cs.take (n * P.cellsOf e)) (List.replicate n ks).flatten →
      ∃ l, ((List.range n).mapM fun i => P.keyLits d e ((cs.drop (i * P.cellsOf e)).take (P.cellsOf e))) = some l ∧ l.flatten = (cs.take (n * P.cellsOf e)).map toLit
  | 0, _ => ⟨[], by simp, by simp⟩
  | n + 1, h => by
    have e1 : (List.replicate (n + 1) ks).flatten = (List.replicate n ks).flatten ++ ks := by
      rw [List.replicate_succ', List.flatten_append]; simp
    have hlen : ((List.replicate n ks).flatten).length = n * P.cellsOf e := by simp [hl]
    rw [e1] at h
    obtain ⟨h1, h2⟩ := h.split
    rw [hlen] at h1 h2
    have e2 : (cs.take ((n + 1) * P.cellsOf e)).take (n * P.cellsOf e) = cs.take (n * P.cellsOf e) := by
      rw [List.take_take, Nat.min_eq_left (Nat.mul_le_mul_right _ (by omega))]
    have e3 : (cs.take ((n + 1) * P.cellsOf e)).drop (n * P.cellsOf e) = (cs.drop (n * P.cellsOf e)).take (P.cellsOf e) := by
      rw [List.drop_take]; congr 1; rw [Nat.succ_mul]; omega
    rw [e2] at h1
    rw [e3] at h2
    obtain ⟨l, hl1, hl2⟩ := mapM_parts hl ih cs n h1
    refine ⟨l ++ [((cs.drop (n * P.cellsOf e)).take (P.cellsOf e)).map toLit], ?_, ?_⟩
    · rw [List.range_succ, List.mapM_append, hl1]
      simp [ih _ h2]
    · rw [List.flatten_append, hl2]
      have e4 : cs.take ((n + 1) * P.cellsOf e) = cs.take (n * P.cellsOf e) ++ (cs.drop (n * P.cellsOf e)).take (P.cellsOf e) := by
        rw [← e3]
        conv => lhs; rw [← List.take_append_drop (n * P.cellsOf e) (cs.take ((n + 1) * P.cellsOf e)), e2]
      rw [e4, List.map_append]; simp
theorem mapM_fields {P : Program} {d : Nat} (ih : ∀ t ks, leafs P d t = some ks → ∀ cs, Fits cs ks → P.keyLits d t cs = some (cs.map toLit)) (cs : List Value) :
    ∀ (fs : List Field) (o : Nat) (kss : List (List IntKind)), offsOk P o fs = true → (fs.mapM fun f => (leafs P d f.type).bind fun ks => if ks.length = P.cellsOf f.type then some ks else none) = some kss → Fits (cs.drop o) kss.flatten →
      ∃ l, (fs.mapM fun f => P.keyLits d f.type ((cs.drop f.offset).take (P.cellsOf f.type))) = some l ∧ l.flatten = (cs.drop o).map toLit
  | [], o, kss, _, hk, hf => by
    simp at hk
    subst hk
    have := hf.length
    refine ⟨[], by simp, ?_⟩
    simp at this
    simp [List.drop_eq_nil_of_le (show cs.length ≤ o by omega)]
  | f :: fs, o, kss, ho, hk, hf => by
    simp only [offsOk, Bool.and_eq_true, beq_iff_eq] at ho
    obtain ⟨⟨ho1, _⟩, ho2⟩ := ho
    rw [List.mapM_cons] at hk
    simp only [bind, Option.bind_eq_some_iff, pure, Option.some.injEq] at hk
    obtain ⟨ks, ⟨ks', hk1, hk2⟩, kss', hk3, rfl⟩ := hk
    split at hk2
    · rename_i hlen
      simp only [Option.some.injEq] at hk2
      subst hk2
      rw [List.flatten_cons] at hf
      obtain ⟨h1, h2⟩ := hf.split
      rw [hlen] at h1 h2
      rw [List.drop_drop] at h2
      obtain ⟨l, hl1, hl2⟩ := mapM_fields ih cs fs (o + P.cellsOf f.type) kss' ho2 hk3 h2
      refine ⟨((cs.drop o).take (P.cellsOf f.type)).map toLit :: l, ?_, ?_⟩
      · rw [List.mapM_cons, ho1, ih _ _ hk1 _ h1, hl1]
        rfl
      · rw [List.flatten_cons, hl2, ← List.map_append, ← List.drop_drop, List.take_append_drop]
    · cases hk2
theorem keyLits_fits {P : Program} : ∀ (d : Nat) (t : TypeId) (ks : List IntKind), leafs P d t = some ks → ∀ cs, Fits cs ks → P.keyLits d t cs = some (cs.map toLit)
  | 0, _, _, h, _, _ => by simp [leafs] at h
  | d + 1, t, ks, h, cs, hf => by
    have ih := keyLits_fits (P := P) d
    unfold leafs at h
    cases hu : P.underlying t with
    | none => simp [hu] at h
    | some kd =>
      rw [hu] at h
      cases kd with
      | int q =>
        simp only [Option.some.injEq] at h
        subst h
        match cs, hf with
        | [v], hf =>
          obtain ⟨⟨z, rfl, hz⟩, _⟩ := hf
          simp [Program.keyLits, hu, hz, toLit]
      | array n e =>
        simp only at h
        cases he : leafs P d e with
        | none => rw [he] at h; cases h
        | some k1 =>
          rw [he] at h
          simp only at h
          split at h
          · rename_i hc
            simp only [Option.some.injEq] at h
            subst h
            have hlen : cs.length = P.cellsOf t := by rw [hf.length]; simp [hc.1, hc.2]
            obtain ⟨l, h1, h2⟩ := mapM_parts hc.1 (ih e k1 he) cs n (by rw [hc.2, ← hlen, List.take_length]; exact hf)
            rw [hc.2, ← hlen, List.take_length] at h2
            simp only [Program.keyLits, hu]
            rw [if_pos hlen, h1, Option.map_some, h2]
          · cases h
      | struct fs =>
        simp only at h
        split at h
        · rename_i kss hk
          split at h
          · rename_i hc
            simp only [Option.some.injEq] at h
            subst h
            have hlen : cs.length = P.cellsOf t := by rw [hf.length]; exact hc.2
            obtain ⟨l, h1, h2⟩ := mapM_fields ih cs fs.toList 0 kss hc.1 hk (by rw [List.drop_zero]; exact hf)
            rw [List.drop_zero] at h2
            have hnb : fs.all (·.name != "_") = true := by
              rw [← Array.all_toList]
              have : ∀ (l : List Field) (o : Nat), offsOk P o l = true → l.all (·.name != "_") = true := by
                intro l
                induction l with
                | nil => intro _ _; rfl
                | cons f l ihl =>
                  intro o ho
                  simp only [offsOk, Bool.and_eq_true] at ho
                  rw [List.all_cons, ho.1.2, ihl _ ho.2]; rfl
              exact this _ _ hc.1
            simp only [Program.keyLits, hu]
            rw [if_pos ⟨hlen, hnb⟩, h1, Option.map_some, h2]
          · cases h
        · cases h
      | _ => cases h
theorem toLit_inj : ∀ {xs ys : List Value} {ks : List IntKind}, Fits xs ks → Fits ys ks → (xs.map toLit = ys.map toLit ↔ xs = ys)
  | [], [], _, _, _ => by simp
  | [], y :: ys, [], _, h => h.elim
  | x :: xs, _, [], h, _ => h.elim
  | [], _, _ :: _, h, _ => h.elim
  | _ :: _, [], _ :: _, _, h => h.elim
  | x :: xs, y :: ys, k :: ks, h1, h2 => by
    obtain ⟨⟨a, rfl, _⟩, h1⟩ := h1
    obtain ⟨⟨b, rfl, _⟩, h2⟩ := h2
    simp only [List.map_cons, List.cons.injEq, toLit_inj h1 h2, toLit, Lit.int.injEq, Value.int.injEq]
/-- Equality of two aggregates of numbers is told cell by cell. -/
theorem eql_fits {P : Program} {t : TypeId} {ks : List IntKind} {m d : Nat} (hm : m ≤ 10000) (hk : P.keyTypeAt m t = true) (hl : leafs P d t = some ks) {xs ys : Array Value} (hfx : (Value.agg xs).formed P t = true) (hfy : (Value.agg ys).formed P t = true) (hx : Fits xs.toList ks) (hy : Fits ys.toList ks) (w : World) :
    ∃ r : Bool, (Op.equalIn 10000 t (.agg xs) (.agg ys)).run P w = .ok r w ∧ (r = true ↔ xs = ys) := by
  have h := run_equalIn_deep (P := P) (10000 - m) m t hk
  rw [show 10000 - m + m = 10000 by omega] at h
  obtain ⟨r, hr, hiff⟩ := h w d d (.agg xs) (.agg ys) _ _ hfx hfy (keyLits_fits d t ks hl xs.toList hx) (keyLits_fits d t ks hl ys.toList hy)
  refine ⟨r, hr, ?_⟩
  rw [hiff, toLit_inj hx hy]
  exact ⟨fun e => Array.toList_inj.1 e, fun e => by rw [e]⟩
section
variable {P : Program}
theorem wpList_load_midG {ops : Array Oper} {rest : List Oper} {op : Oper} {a : Act} {w : World} {Q : Exit → Act → World → Prop} (hg : Region.wanted op (yielded ops a.tmps) = true) (ty : TypeId) (x : Operand) (ho : op.op = .load ty x)
    (b o : Nat) (hx : a.eval x = .pointer (some ⟨b, o, none⟩)) (cs : List Value) (d : TypeDesc) (hc : w.rangeAt b o cs)
    (hu : P.underlying ty = some d) (hd : d.isRow = true) (hi : (P.info? ty).map (·.size) = some cs.length)
    (h : wpList P ops Q rest (a.put op.dst (.agg cs.toArray)) w) : wpList P ops Q (op :: rest) a w :=
  BigFrame.wpList_want hg fun _ hK => wp_load_mid ty x ho b o hx cs d hc hu hd hi (hK _ _ h)
/-- What == of two structs or arrays tells (a name, so that nothing unfolds it). -/
structure EqRun (P : Program) (ty : TypeId) (xs ys : Array Value) (w : World) (r : Bool) : Prop where
  run : (Op.equalIn 10000 ty (.agg xs) (.agg ys)).run P w = .ok r w
theorem wp_eql {op : Oper} {a : Act} {w : World} {K : Act → World → Prop} {Q : Exit → Act → World → Prop} (ty : TypeId) (x y : Operand) (ho : op.op = .binOp .eql ty x y ty)
    (xs ys : Array Value) (hx : a.eval x = .agg xs) (hy : a.eval y = .agg ys) (r : Bool) (hm : P.eqGuardType P.depth ty = false)
    (hr : EqRun P ty xs ys w r) (h : K (a.put op.dst (.bool r)) w) : op.wp P a w K Q := by
  unfold Oper.wp execOp
  simp only [ho, hx, hy, Sem.run_bind, run_eqGuard_agg w .eql ty x y xs ys hm, Result.andThen_ok, run_eql_struct w ty xs ys, hr.run, Sem.run_pure]
  exact h
theorem wpList_eqlG {ops : Array Oper} {rest : List Oper} {op : Oper} {a : Act} {w : World} {Q : Exit → Act → World → Prop} (hg : Region.wanted op (yielded ops a.tmps) = true) (ty : TypeId) (x y : Operand) (ho : op.op = .binOp .eql ty x y ty)
    (xs ys : Array Value) (hx : a.eval x = .agg xs) (hy : a.eval y = .agg ys) (r : Bool) (hm : P.eqGuardType P.depth ty = false)
    (hr : EqRun P ty xs ys w r) (h : wpList P ops Q rest (a.put op.dst (.bool r)) w) : wpList P ops Q (op :: rest) a w :=
  BigFrame.wpList_want hg fun _ hK => wp_eql ty x y ho xs ys hx hy r hm hr (hK _ _ h)
/-- What a build yields (a name, so that nothing unfolds it). -/
structure BuildRun (P : Program) (t : TypeId) (ps : Array (Nat × Value)) (w : World) (r : Value) : Prop where
  run : (Instr.build t ps).run P w = .ok r w
theorem wpList_buildG {ops : Array Oper} {rest : List Oper} {op : Oper} {a : Act} {w : World} {Q : Exit → Act → World → Prop} (hg : Region.wanted op (yielded ops a.tmps) = true) (t : TypeId) (parts : List (Nat × Operand)) (ho : op.op = .build t parts.toArray)
    (ps : List (Nat × Value)) (hps : (parts.map fun x => (x.1, a.eval x.2)) = ps) (r : Value) (hr : BuildRun P t ps.toArray w r) (h : wpList P ops Q rest (a.put op.dst r) w) : wpList P ops Q (op :: rest) a w :=
  BigFrame.wpList_want hg fun K hK => by
    have hr := hr.run
    rw [← hps] at hr
    unfold Oper.wp execOp
    simp only [ho, List.map_toArray, Sem.run_bind, hr, Result.andThen_ok, Sem.run_pure]
    exact hK _ _ h
theorem wpList_neqG {ops : Array Oper} {rest : List Oper} {op : Oper} {a : Act} {w : World} {Q : Exit → Act → World → Prop} (hg : Region.wanted op (yielded ops a.tmps) = true) (ty : TypeId) (x y : Operand) (ho : op.op = .binOp .neq ty x y ty)
    (xs ys : Array Value) (hx : a.eval x = .agg xs) (hy : a.eval y = .agg ys) (r : Bool) (hm : P.eqGuardType P.depth ty = false)
    (hr : EqRun P ty xs ys w r) (h : wpList P ops Q rest (a.put op.dst (.bool (!r))) w) : wpList P ops Q (op :: rest) a w :=
  BigFrame.wpList_want hg fun K hK => by
    unfold Oper.wp execOp
    simp only [ho, hx, hy, Sem.run_bind, run_eqGuard_agg w .neq ty x y xs ys hm, Result.andThen_ok, run_neq_struct w ty xs ys, hr.run, Sem.run_pure]
    exact hK _ _ h
theorem yields_build {ops : Array Oper} {S : World → Prop} {op : Oper} {a : Act} (hw : Region.wanted op (yielded ops a.tmps) = true) (t : TypeId) (parts : List (Nat × Operand)) (ho : op.op = .build t parts.toArray) (ps : List (Nat × Value)) (hps : (parts.map fun x => (x.1, a.eval x.2)) = ps) (r : Value)
    (hr : ∀ w, BuildRun P t ps.toArray w r) : YieldsIf P ops S op r a :=
  .inl ⟨hw, fun w _ => by
    have hr := (hr w).run
    rw [← hps] at hr
    unfold execOp
    simp only [ho, List.map_toArray, Sem.run_bind, hr, Result.andThen_ok, Sem.run_pure]⟩
theorem yields_eql {ops : Array Oper} {S : World → Prop} {op : Oper} {a : Act} (hw : Region.wanted op (yielded ops a.tmps) = true) (ty : TypeId) (x y : Operand) (ho : op.op = .binOp .eql ty x y ty)
    (xs ys : Array Value) (hx : a.eval x = .agg xs) (hy : a.eval y = .agg ys) (r : Bool) (hm : P.eqGuardType P.depth ty = false) (hr : ∀ w, EqRun P ty xs ys w r) : YieldsIf P ops S op (.bool r) a :=
  .inl ⟨hw, fun w _ => by
    unfold execOp
    simp only [ho, hx, hy, Sem.run_bind, run_eqGuard_agg w .eql ty x y xs ys hm, Result.andThen_ok, run_eql_struct w ty xs ys, (hr w).run, Sem.run_pure]⟩
theorem yields_neq {ops : Array Oper} {S : World → Prop} {op : Oper} {a : Act} (hw : Region.wanted op (yielded ops a.tmps) = true) (ty : TypeId) (x y : Operand) (ho : op.op = .binOp .neq ty x y ty)
    (xs ys : Array Value) (hx : a.eval x = .agg xs) (hy : a.eval y = .agg ys) (r : Bool) (hm : P.eqGuardType P.depth ty = false) (hr : ∀ w, EqRun P ty xs ys w r) : YieldsIf P ops S op (.bool (!r)) a :=
  .inl ⟨hw, fun w _ => by
    unfold execOp
    simp only [ho, hx, hy, Sem.run_bind, run_eqGuard_agg w .neq ty x y xs ys hm, Result.andThen_ok, run_neq_struct w ty xs ys, (hr w).run, Sem.run_pure]⟩
end
/-- Results: a block whole. -/
theorem results_cell_one {P : Program} {fn : Func} {p : Tmp} {ty : TypeId} (h : fn.results = #[.cell p ty]) (tmps : Array Value) (w : World) (b : Nat) (cs : List Value) (d : TypeDesc) (hp : tmps.getD p undef = .pointer (some ⟨b, 0, none⟩)) (hc : w.rangeAt b 0 cs)
    (hu : P.underlying ty = some d) (hd : d.isRow = true) (hi : (P.info? ty).map (·.size) = some cs.length) :
    (results fn tmps).run P w = .ok (.agg cs.toArray) w := by
  have h1 : (results fn tmps).run P w = ((asAddr (tmps.getD p undef)).run P w).andThen fun a w₁ => (loadVar ty a).run P w₁ := by
    simp only [results, h]
    simp [Sem.run_bind, Result.andThen]
  rw [h1, hp]
  simp only [asAddr, Sem.run_pure, Result.andThen_ok, run_loadVar_mid w b 0 ty cs d hc hu hd hi]
/-- Results: a block whole, and a slot. -/
theorem results_cell_mid {P : Program} {fn : Func} {p u : Tmp} {ty : TypeId} (h : fn.results = #[.cell p ty, .tmp u]) (tmps : Array Value) (w : World) (b : Nat) (cs : List Value) (d : TypeDesc) (hp : tmps.getD p undef = .pointer (some ⟨b, 0, none⟩)) (hc : w.rangeAt b 0 cs)
    (hu : P.underlying ty = some d) (hd : d.isRow = true) (hi : (P.info? ty).map (·.size) = some cs.length) :
    (results fn tmps).run P w = .ok (.tuple #[.agg cs.toArray, tmps.getD u undef]) w := by
  rw [results_cell_tmp h, hp]
  simp only [asAddr, Sem.run_pure, Result.andThen_ok, run_loadVar_mid w b 0 ty cs d hc hu hd hi]
end Go.Proofs.YtodhaaaodmcplaaGreat
