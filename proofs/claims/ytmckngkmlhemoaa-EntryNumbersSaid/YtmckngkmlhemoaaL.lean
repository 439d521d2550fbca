/- Noughts of the layer's structs (layer 14, entry), built and allotted; operations that only yield, in the midst of a walk. -/
import Derived.Test.YtmckngkmlhemoaaK
import Derived.Deep.CutBlock
import Derived.Laws.ResultCell
namespace Go.Proofs.Ytmckngkmlhemoaa
open Go.RowKit
section
variable {P : Program}
/-- What a build yields (a name, so that nothing unfolds it). -/
structure BuildRun (P : Program) (t : TypeId) (ps : Array (Nat × Value)) (w : World) (r : Value) : Prop where
  run : (Instr.build t ps).run P w = .ok r w
theorem wpList_buildG {ops : Array Oper} {rest : List Oper} {op : Oper} {a : Act} {w : World} {Q : Exit → Act → World → Prop} (hg : Region.wanted op (yielded ops a.tmps) = true) (t : TypeId) (parts : List (Nat × Operand)) (ho : op.op = .build t parts.toArray)
    (ps : List (Nat × Value)) (hps : (parts.map fun x => (x.1, a.eval x.2)) = ps) (r : Value) (hr : BuildRun P t ps.toArray w r) (h : wpList P ops Q rest (a.put op.dst r) w) : wpList P ops Q (op :: rest) a w :=
  BigFrame.wpList_want hg fun K hK => by
    have hr := hr.run
    rw [← hps] at hr
    unfold Oper.wp execOp
    simp only [ho, List.map_toArray, Sem.run_bind, hr, Result.andThen_ok, Sem.run_pure]
    exact hK _ _ h
end
def zb (n : Nat) : List Value := List.replicate n (.int .u8 0)
/-- An entry of nothing. -/
def zE : List Value := zb 80
/-- An item of nothing but its kind. -/
def zI (x : Int) : List Value := .int .u8 x :: (zb 32 ++ List.replicate 6 (.int .i64 0) ++ (zb 32 ++ [.int .i64 0, .int .i64 0]))
theorem zI_one (x : Int) : ∀ v ∈ zI x, v.oneCell' = true := by
  intro v hv
  have : ∀ v ∈ zI x, ∃ k z, v = .int k z := by
    intro v hv
    simp only [zI, zb, List.mem_cons, List.mem_append, List.mem_replicate, List.not_mem_nil, or_false] at hv
    rcases hv with h | ((⟨_, h⟩ | ⟨_, h⟩) | ⟨_, h⟩ | h | h) <;> exact ⟨_, _, h⟩
  obtain ⟨k, z, rfl⟩ := this v hv
  rfl
theorem zero35 (u : World) : (zeroValue 35).run Try.prog u = .ok (.agg zE.toArray) u := by kernel_rfl
theorem zero30 (u : World) : (zeroValue 30).run Try.prog u = .ok (.agg (zI 0).toArray) u := by kernel_rfl
theorem zero26 (u : World) : (zeroValue 26).run Try.prog u = .ok (.agg #[.int .i64 0, .int .i64 0, .int .i64 0, .int .i64 0]) u := by kernel_rfl
theorem zero28 (u : World) : (zeroValue 28).run Try.prog u = .ok (.agg (zb 32 ++ [Value.int .i64 0, Value.int .i64 0]).toArray) u := by kernel_rfl
theorem zero32 (u : World) : (zeroValue 32).run Try.prog u = .ok (.agg (zb 40).toArray) u := by kernel_rfl
theorem zero33 (u : World) : (zeroValue 33).run Try.prog u = .ok (.agg (zb 40).toArray) u := by kernel_rfl
theorem build32 (x : Int) (u : World) : BuildRun Try.prog 32 #[(0, .int .u8 x)] u (.agg (.int .u8 x :: zb 39).toArray) := ⟨by kernel_rfl⟩
theorem build35 (x : Int) (u : World) : BuildRun Try.prog 35 #[(0, .agg (.int .u8 x :: zb 39).toArray)] u (.agg (.int .u8 x :: zb 79).toArray) := ⟨by kernel_rfl⟩
theorem build30 (x : Int) (u : World) : BuildRun Try.prog 30 #[(0, .int .u8 x)] u (.agg (zI x).toArray) := ⟨by kernel_rfl⟩
theorem build35z (u : World) : BuildRun Try.prog 35 #[] u (.agg zE.toArray) := ⟨by kernel_rfl⟩
theorem build30z (u : World) : BuildRun Try.prog 30 #[] u (.agg (zI 0).toArray) := ⟨by kernel_rfl⟩
theorem info30 : (Try.prog.info? 30).map (·.size) = some 73 := by kernel_rfl
theorem info32 : (Try.prog.info? 32).map (·.size) = some 40 := by kernel_rfl
theorem info33 : (Try.prog.info? 33).map (·.size) = some 40 := by kernel_rfl
theorem info35 : (Try.prog.info? 35).map (·.size) = some 80 := by kernel_rfl
theorem info3 : (Try.prog.info? 3).map (·.size) = some 1 := by kernel_rfl
theorem info5 : (Try.prog.info? 5).map (·.size) = some 1 := by kernel_rfl
theorem eqg30 : Try.prog.eqGuardType Try.prog.depth 30 = false := by kernel_rfl
theorem eqg35 : Try.prog.eqGuardType Try.prog.depth 35 = false := by kernel_rfl
section
variable {P : Program}
theorem wpList_neqG {ops : Array Oper} {rest : List Oper} {op : Oper} {a : Act} {w : World} {Q : Exit → Act → World → Prop} (hg : Region.wanted op (yielded ops a.tmps) = true) (ty : TypeId) (x y : Operand) (ho : op.op = .binOp .neq ty x y ty)
    (xs ys : Array Value) (hx : a.eval x = .agg xs) (hy : a.eval y = .agg ys) (r : Bool) (hm : P.eqGuardType P.depth ty = false)
    (hr : EqRun P ty xs ys w r) (h : wpList P ops Q rest (a.put op.dst (.bool (!r))) w) : wpList P ops Q (op :: rest) a w :=
  BigFrame.wpList_want hg fun K hK => by
    unfold Oper.wp execOp
    simp only [ho, hx, hy, Sem.run_bind, run_eqGuard_agg w .neq ty x y xs ys hm, Result.andThen_ok, run_neq_struct w ty xs ys, hr.run, Sem.run_pure]
    exact hK _ _ h
end
/-- == of two items. -/
theorem eqr30 {i j : Itm} (hi : i.Ok) (hj : j.Ok) (w : World) : ∃ r : Bool, EqRun Try.prog 30 i.cells.toArray j.cells.toArray w r ∧ (r = true ↔ i.cells = j.cells) := by
  obtain ⟨r, hr, hiff⟩ := eql30 (xs := i.cells.toArray) (ys := j.cells.toArray) (by simpa using Itm.fits hi) (by simpa using Itm.fits hj) w
  exact ⟨r, ⟨hr⟩, hiff.trans (by simp)⟩
/-- == of two entries. -/
theorem eqr35 {i j : Ent} (hi : i.Ok) (hj : j.Ok) (w : World) : ∃ r : Bool, EqRun Try.prog 35 i.cells.toArray j.cells.toArray w r ∧ (r = true ↔ i.cells = j.cells) := by
  have l1 := (Ent.fits hi).length
  have l2 := (Ent.fits hj).length
  obtain ⟨r, hr, hiff⟩ := eql_fits (P := Try.prog) (t := 35) (m := 5) (d := 5) (by omega) key35 leafs35 (xs := i.cells.toArray) (ys := j.cells.toArray) (by simp [Value.formed, Try.underlying35, l1]; kernel_rfl) (by simp [Value.formed, Try.underlying35, l2]; kernel_rfl) (by simpa using Ent.fits hi) (by simpa using Ent.fits hj) w
  exact ⟨r, ⟨hr⟩, hiff.trans (by simp)⟩
theorem splice_mid {α : Type} (A B C D : List α) (o : Nat) (hA : A.length = o) (hB : B.length = D.length) : splice (A ++ (B ++ C)) o D = A ++ (D ++ C) := by
  subst hA
  unfold splice
  rw [List.take_left, ← List.drop_drop, List.drop_left, ← hB, List.drop_left]
theorem zb_len (n : Nat) : (zb n).length = n := by simp [zb]
theorem zb_add (m n : Nat) : zb (m + n) = zb m ++ zb n := by simp [zb]
theorem zb_one {n : Nat} : ∀ v ∈ zb n, v.oneCell' = true := fun v hv => by
  rw [List.eq_of_mem_replicate hv]; rfl
/-- Numbers, four bytes each. -/
def fours (xs : List Int) : List Int := (xs.map fourL).flatten
theorem fours_len : ∀ (xs : List Int), (fours xs).length = 4 * xs.length
  | [] => rfl
  | x :: xs => by
    have := fours_len xs
    simp only [fours, List.map_cons, List.flatten_cons, List.length_append, List.length_cons] at this ⊢
    rw [this]; simp [fourL]; omega
theorem fours_snoc (xs : List Int) (x : Int) : fours (xs ++ [x]) = fours xs ++ fourL x := by simp [fours]
/-- n bytes that begin with these numbers. -/
def fz (n : Nat) (xs : List Int) : List Value := u8l (fours xs) ++ zb (n - 4 * xs.length)
theorem fz_put (n : Nat) (xs : List Int) (x : Int) (H C : List Value) (o : Nat) (ho : H.length + 4 * xs.length = o) (hn : 4 * xs.length + 4 ≤ n) : splice (H ++ (fz n xs ++ C)) o (u8l (fourL x)) = H ++ (fz n (xs ++ [x]) ++ C) := by
  have e1 : H ++ (fz n xs ++ C) = (H ++ u8l (fours xs)) ++ (zb 4 ++ (zb (n - 4 * (xs.length + 1)) ++ C)) := by
    rw [fz, show n - 4 * xs.length = 4 + (n - 4 * (xs.length + 1)) by omega, zb_add]
    simp only [List.append_assoc]
  rw [e1, splice_mid _ (zb 4) _ _ o (by simp [u8l_len, fours_len]; omega) (by simp [zb_len, u8l_len, fourL]), fz, fours_snoc, u8l_app]
  simp
/-- four(b[..], n): the document's bytes lie there. -/
theorem four20M {W w : World} {L : List (Nat × List Value × TypeId)} (M : Mem W w L) (i : Nat) {b : Nat} {c : List Value} {t : TypeId} (hi : L[i]? = some (b, c, t)) (off m cap : Nat) (n : Int) (hm : 4 ≤ m) (hs : off + 4 ≤ c.length) :
    Calls Try.prog 20 #[.slice (some ⟨b, off, none⟩) m cap, .int .i64 n] w fun e w' => e = .returned undef ∧ Mem W w' (L.set i (b, splice c off (u8l (fourL n)), t)) :=
  (four20 n b off m cap c.toArray t w hm (M.get i hi) (by simpa using hs)).mono fun e w' ⟨he, hb, hk⟩ => ⟨he, M.put i hi hk (by rw [hb, put4_splice _ _ _ hs])⟩
/-- The entry of a right item. -/
def Itm.ent (i : Itm) : Ent :=
  if i.kind = 1 then ⟨1 :: (i.key ++ List.replicate 7 0), fours [i.pa, i.ps, i.pu, i.pr] ++ List.replicate 24 0⟩
  else if i.kind = 2 then ⟨2 :: (fours [i.sn, i.un] ++ List.replicate 31 0), i.skey ++ ([i.so % 256, i.sm % 256] ++ List.replicate 6 0)⟩
  else ⟨i.kind :: (fours [i.sn] ++ List.replicate 35 0), List.replicate 40 0⟩
/-- What an item's kind has of it. -/
def Itm.bare1 (i : Itm) : Itm := ⟨1, i.key, i.pa, i.ps, i.pu, i.pr, 0, 0, List.replicate 32 0, 0, 0⟩
def Itm.bare2 (i : Itm) : Itm := ⟨2, List.replicate 32 0, 0, 0, 0, 0, i.sn, i.un, i.skey, i.so, i.sm⟩
def Itm.bare3 (i : Itm) : Itm := ⟨3, List.replicate 32 0, 0, 0, 0, 0, i.sn, 0, List.replicate 32 0, 0, 0⟩
theorem zI_parts (x : Int) : zI x = [.int .u8 x] ++ (zb 32 ++ ([.int .i64 0, .int .i64 0, .int .i64 0, .int .i64 0] ++ ([.int .i64 0] ++ ([.int .i64 0] ++ ((zb 32 ++ [.int .i64 0, .int .i64 0]) ++ []))))) := by
  simp [zI, List.replicate]
theorem u8l_zb (n : Nat) : u8l (List.replicate n 0) = zb n := u8l_zero n
theorem bare1_eq (i : Itm) (hk : i.key.length = 32) : splice (splice (zI 1) 1 (u8l i.key)) 33 i.pl = i.bare1.cells := by
  rw [zI_parts, splice_mid _ _ _ _ 1 rfl (by simp [zb_len, u8l_len, hk]), ← List.append_assoc, splice_mid _ _ _ _ 33 (by simp [u8l_len, hk]) (by simp [Itm.pl])]
  simp only [Itm.cells, Itm.bare1, Itm.pl, Itm.sl, u8l_zb]
  simp
theorem bare2_eq (i : Itm) (hs : i.skey.length = 32) : splice (splice (splice (zI 2) 37 [.int .i64 i.sn]) 38 [.int .i64 i.un]) 39 i.sl = i.bare2.cells := by
  have e : zI 2 = ([.int .u8 2] ++ zb 32 ++ [.int .i64 0, .int .i64 0, .int .i64 0, .int .i64 0]) ++ ([.int .i64 0] ++ ([.int .i64 0] ++ ((zb 32 ++ [.int .i64 0, .int .i64 0]) ++ []))) := by
    rw [zI_parts]; simp
  rw [e, splice_mid _ _ _ _ 37 (by simp [zb_len]) (by simp), ← List.append_assoc _ _ ([Value.int .i64 0] ++ _), splice_mid _ _ _ _ 38 (by simp [zb_len]) (by simp), ← List.append_assoc _ _ (_ ++ []), splice_mid _ _ _ _ 39 (by simp [zb_len]) (by simp [zb_len, Itm.sl, u8l_len, hs])]
  simp only [Itm.cells, Itm.bare2, Itm.sl, u8l_zb]
  simp
theorem bare3_eq (i : Itm) : splice (zI 3) 37 [.int .i64 i.sn] = i.bare3.cells := by
  have e : zI 3 = ([.int .u8 3] ++ zb 32 ++ [.int .i64 0, .int .i64 0, .int .i64 0, .int .i64 0]) ++ ([.int .i64 0] ++ ([.int .i64 0] ++ ((zb 32 ++ [.int .i64 0, .int .i64 0]) ++ []))) := by
    rw [zI_parts]; simp
  rw [e, splice_mid _ _ _ _ 37 (by simp [zb_len]) (by simp)]
  simp only [Itm.cells, Itm.bare3, Itm.sl, u8l_zb]
  simp
theorem sl_one (i : Itm) : ∀ v ∈ i.sl, v.oneCell' = true := by
  intro v hv
  rcases List.mem_append.1 hv with hv | hv
  · exact u8l_one v hv
  · simp at hv
    rcases hv with rfl | rfl <;> rfl
theorem bytes_zero (n : Nat) : Bytes n (List.replicate n 0) := ⟨by simp, fun x hx => by rw [List.eq_of_mem_replicate hx]; omega⟩
theorem okI_zero : okI 0 := by
  show (Lit.int .i64 0).wf = true
  kernel_rfl
theorem bare1_ok {i : Itm} (h : i.Ok) : i.bare1.Ok := ⟨by simp [Itm.bare1], h.key, h.pa, h.ps, h.pu, h.pr, okI_zero, okI_zero, bytes_zero 32, okI_zero, okI_zero⟩
theorem bare2_ok {i : Itm} (h : i.Ok) : i.bare2.Ok := ⟨by simp [Itm.bare2], bytes_zero 32, okI_zero, okI_zero, okI_zero, okI_zero, h.sn, h.un, h.skey, h.so, h.sm⟩
theorem bare3_ok {i : Itm} (h : i.Ok) : i.bare3.Ok := ⟨by simp [Itm.bare3], bytes_zero 32, okI_zero, okI_zero, okI_zero, okI_zero, h.sn, okI_zero, bytes_zero 32, okI_zero, okI_zero⟩
theorem follows : Try.prog.follows .mixedOrders = true := by kernel_rfl
/-- Results: a block whole, and a slot. -/
theorem results_cell_mid {P : Program} {fn : Func} {p u : Tmp} {ty : TypeId} (h : fn.results = #[.cell p ty, .tmp u]) (tmps : Array Value) (w : World) (b : Nat) (cs : List Value) (d : TypeDesc) (hp : tmps.getD p undef = .pointer (some ⟨b, 0, none⟩)) (hc : w.rangeAt b 0 cs)
    (hu : P.underlying ty = some d) (hd : d.isRow = true) (hi : (P.info? ty).map (·.size) = some cs.length) :
    (results fn tmps).run P w = .ok (.tuple #[.agg cs.toArray, tmps.getD u undef]) w := by
  rw [results_cell_tmp h, hp]
  simp only [asAddr, Sem.run_pure, Result.andThen_ok, run_loadVar_mid w b 0 ty cs d hc hu hd hi]
theorem Mem.all {W w : World} {L : List (Nat × List Value × TypeId)} (h : Mem W w L) (i : Nat) {b : Nat} {c : List Value} {t : TypeId} (hi : L[i]? = some (b, c, t)) : w.rangeAt b 0 c := h.range i hi 0 c (by simp)
theorem zeroL_iff {xs : List Int} {n : Nat} (h : xs.length = n) : zeroB (u8l xs) = true ↔ xs = List.replicate n 0 := by
  subst h
  induction xs with
  | nil => simp [zeroB, u8l]
  | cons x xs ih =>
    have e : zeroB (u8l (x :: xs)) = (x == 0 && zeroB (u8l xs)) := by simp [zeroB, u8l]
    rw [e, Bool.and_eq_true, ih]
    simp [List.replicate_succ]
theorem zeroB_app (a b : List Value) : zeroB (a ++ b) = (zeroB a && zeroB b) := by simp [zeroB]
theorem zeroSl_iff {i : Itm} (h : i.skey.length = 32) : zeroB i.sl = true ↔ i.skey = List.replicate 32 0 ∧ i.so = 0 ∧ i.sm = 0 := by
  rw [Itm.sl, zeroB_app, Bool.and_eq_true, zeroL_iff h]
  simp [zeroB]
theorem zeroPl_iff (i : Itm) : zeroB i.pl = true ↔ i.pa = 0 ∧ i.ps = 0 ∧ i.pu = 0 ∧ i.pr = 0 := by
  simp [zeroB, Itm.pl]
theorem cells_inj {i j : Itm} (hi : i.Ok) (hj : j.Ok) (h : i.cells = j.cells) : i = j := by
  simp only [Itm.cells, Itm.sl, List.cons.injEq, Value.int.injEq, true_and] at h
  obtain ⟨h0, h⟩ := h
  have h1 := List.append_inj h (by simp [u8l_len, hi.key.1, hj.key.1])
  have h2 := List.append_inj h1.1 (by simp [u8l_len, hi.key.1, hj.key.1])
  have h3 := List.append_inj h1.2 (by simp [u8l_len, hi.skey.1, hj.skey.1])
  have k1 := u8l_inj h2.1
  have k2 := u8l_inj h3.1
  have k3 := h2.2
  have k4 := h3.2
  simp at k3 k4
  cases i
  cases j
  simp_all
theorem right1_iff {i : Itm} (ok : i.Ok) (h : i.kind = 1) : i.right = true ↔ placeB i.pa i.ps i.pu i.pr true = true ∧ i.bare1.cells = i.cells := by
  rw [Itm.right1 h]
  simp only [Bool.and_eq_true, beq_iff_eq, zeroSl_iff ok.skey.1]
  constructor
  · rintro ⟨⟨⟨p, a⟩, b⟩, c, d, e⟩
    exact ⟨p, by simp [Itm.cells, Itm.bare1, Itm.sl, a, b, c, d, e, h]⟩
  · rintro ⟨p, q⟩
    have := cells_inj (bare1_ok ok) ok q
    rw [← this] at p ⊢
    simpa [Itm.bare1] using p
theorem right2_iff {i : Itm} (ok : i.Ok) (h : i.kind = 2) : i.right = true ↔ (inB i.sn 0 1073741824 && inB i.un 0 511 && inB i.so 0 15 && inB i.sm 1 255) = true ∧ i.bare2.cells = i.cells := by
  rw [Itm.right2 h]
  simp only [Bool.and_eq_true, zeroPl_iff, zeroL_iff ok.key.1]
  constructor
  · rintro ⟨⟨⟨⟨p, p1⟩, p2, p3⟩, a⟩, b, c, d, e⟩
    exact ⟨⟨⟨⟨p, p1⟩, p2⟩, p3⟩, by simp [Itm.cells, Itm.bare2, Itm.sl, a, b, c, d, e, h]⟩
  · rintro ⟨⟨⟨⟨p, p1⟩, p2⟩, p3⟩, q⟩
    have := cells_inj (bare2_ok ok) ok q
    rw [← this] at p p1 p2 p3 ⊢
    exact ⟨⟨⟨⟨p, p1⟩, p2, p3⟩, by simp [Itm.bare2]⟩, by simp [Itm.bare2]⟩
theorem right3_iff {i : Itm} (ok : i.Ok) (h : i.kind = 3) : i.right = true ↔ inB i.sn 1 1073741824 = true ∧ i.bare3.cells = i.cells := by
  rw [Itm.right3 h]
  simp only [Bool.and_eq_true, zeroL_iff ok.key.1, zeroPl_iff, zeroSl_iff ok.skey.1, beq_iff_eq]
  constructor
  · rintro ⟨⟨⟨⟨p, a⟩, b, b2, b3⟩, c⟩, d, e, f, g⟩
    exact ⟨p, by simp [Itm.cells, Itm.bare3, Itm.sl, a, b, b2, b3, c, d, e, f, g, h]⟩
  · rintro ⟨p, q⟩
    have := cells_inj (bare3_ok ok) ok q
    rw [← this] at p ⊢
    simpa [Itm.bare3] using p
/-- The head of an entry of kind 1. -/
def Itm.h1 (i : Itm) : List Value := .int .u8 1 :: (u8l i.key ++ zb 7)
theorem h1_len {i : Itm} (h : i.key.length = 32) : i.h1.length = 40 := by simp [Itm.h1, u8l_len, h, zb_len]
theorem h1_eq {i : Itm} (h : i.key.length = 32) : splice (.int .u8 1 :: zb 79) 1 (u8l i.key) = i.h1 ++ (fz 40 [] ++ []) := by
  have e : (Value.int .u8 1 :: zb 79) = [.int .u8 1] ++ (zb 32 ++ zb 47) := by rw [← zb_add]; rfl
  rw [e, splice_mid _ _ _ _ 1 rfl (by simp [zb_len, u8l_len, h]), show (47 : Nat) = 7 + 40 from rfl, zb_add]
  simp [Itm.h1, fz, fours, u8l]
theorem ent1_eq {i : Itm} (h : i.kind = 1) : i.h1 ++ (fz 40 [i.pa, i.ps, i.pu, i.pr] ++ []) = i.ent.cells := by
  unfold Itm.ent
  rw [if_pos h]
  simp only [Ent.cells, Itm.h1, fz, u8l_app, List.append_nil]
  simp [u8l, zb]
theorem index56_0 (a b c d : Int) (u : World) : (Instr.index 56 (.agg #[.int .i64 a, .int .i64 b, .int .i64 c, .int .i64 d]) (.int .i64 0)).run Try.prog u = .ok (.int .i64 a) u := by kernel_rfl
theorem index56_1 (a b c d : Int) (u : World) : (Instr.index 56 (.agg #[.int .i64 a, .int .i64 b, .int .i64 c, .int .i64 d]) (.int .i64 1)).run Try.prog u = .ok (.int .i64 b) u := by kernel_rfl
theorem index56_2 (a b c d : Int) (u : World) : (Instr.index 56 (.agg #[.int .i64 a, .int .i64 b, .int .i64 c, .int .i64 d]) (.int .i64 2)).run Try.prog u = .ok (.int .i64 c) u := by kernel_rfl
theorem index56_3 (a b c d : Int) (u : World) : (Instr.index 56 (.agg #[.int .i64 a, .int .i64 b, .int .i64 c, .int .i64 d]) (.int .i64 3)).run Try.prog u = .ok (.int .i64 d) u := by kernel_rfl
theorem ent_ok {i : Itm} (ok : i.Ok) : i.ent.Ok := by
  have hb : ∀ (xs : List Int), ∀ x ∈ fours xs, 0 ≤ x ∧ x < 256 := by
    intro xs x hx
    obtain ⟨l, hl, hx⟩ := List.mem_flatten.1 hx
    obtain ⟨n, _, rfl⟩ := List.mem_map.1 hl
    exact (fourL_bytes n).2 x hx
  have hz : ∀ n, ∀ x ∈ List.replicate n (0 : Int), 0 ≤ x ∧ x < 256 := fun n x hx => by rw [List.eq_of_mem_replicate hx]; omega
  unfold Itm.ent
  split
  · refine ⟨⟨by simp [ok.key.1], fun x hx => ?_⟩, ⟨by simp [fours_len], fun x hx => ?_⟩⟩
    · rcases List.mem_cons.1 hx with rfl | hx
      · omega
      · rcases List.mem_append.1 hx with hx | hx
        · exact ok.key.2 x hx
        · exact hz _ x hx
    · rcases List.mem_append.1 hx with hx | hx
      · exact hb _ x hx
      · exact hz _ x hx
  split
  · refine ⟨⟨by simp [fours_len], fun x hx => ?_⟩, ⟨by simp [ok.skey.1], fun x hx => ?_⟩⟩
    · rcases List.mem_cons.1 hx with rfl | hx
      · omega
      · rcases List.mem_append.1 hx with hx | hx
        · exact hb _ x hx
        · exact hz _ x hx
    · rcases List.mem_append.1 hx with hx | hx
      · exact ok.skey.2 x hx
      · rcases List.mem_append.1 hx with hx | hx
        · simp at hx
          rcases hx with rfl | rfl <;> omega
        · exact hz _ x hx
  · refine ⟨⟨by simp [fours_len], fun x hx => ?_⟩, ⟨by simp, fun x hx => hz _ x hx⟩⟩
    rcases List.mem_cons.1 hx with rfl | hx
    · exact ok.kind
    · rcases List.mem_append.1 hx with hx | hx
      · exact hb _ x hx
      · exact hz _ x hx
theorem ent_len {i : Itm} (ok : i.Ok) : i.ent.cells.length = 80 := by rw [(Ent.fits (ent_ok ok)).length]; rfl
theorem splice_all {α : Type} (a b : List α) (h : a.length = b.length) : splice a 0 b = b := by
  simp [splice, ← h]
/-- What Of tells of an item. -/
def ofOut (i : Itm) : Value := if i.right = true then .tuple #[.agg i.ent.cells.toArray, .int .i64 0] else .tuple #[.agg zE.toArray, .int .i64 2]
theorem ofOut_t {i : Itm} (h : i.right = true) : ofOut i = .tuple #[.agg i.ent.cells.toArray, .int .i64 0] := if_pos h
theorem ofOut_f {i : Itm} (h : i.right = false) : ofOut i = .tuple #[.agg zE.toArray, .int .i64 2] := if_neg (by rw [h]; decide)
/-- The head of an entry of kind 2. -/
def Itm.h2 (i : Itm) : List Value := [.int .u8 2] ++ fz 39 [i.sn, i.un]
theorem h2_len (i : Itm) : i.h2.length = 40 := by simp [Itm.h2, fz, u8l_len, fours_len, zb_len]
theorem fz_zero (n : Nat) : fz n [] = zb n := by simp [fz, fours, u8l]
theorem ent2_eq {i : Itm} (h : i.kind = 2) (hs : i.skey.length = 32) : splice (splice (splice (i.h2 ++ zb 40) 40 (u8l i.skey)) 72 [.int .u8 (i.so % 256)]) 73 [.int .u8 (i.sm % 256)] = i.ent.cells := by
  have e : i.h2 ++ zb 40 = i.h2 ++ (zb 32 ++ ([.int .u8 0] ++ ([.int .u8 0] ++ zb 6))) := rfl
  rw [e, splice_mid _ _ _ _ 40 (h2_len i) (by simp [zb_len, u8l_len, hs]), ← List.append_assoc, splice_mid _ _ _ _ 72 (by simp [h2_len, u8l_len, hs]) (by simp), ← List.append_assoc _ _ (_ ++ zb 6), splice_mid _ _ _ _ 73 (by simp [h2_len, u8l_len, hs]) (by simp)]
  unfold Itm.ent
  rw [if_neg (by omega), if_pos h]
  simp only [Ent.cells, Itm.h2, fz, u8l_app]
  simp [u8l, zb]
theorem ent3_eq {i : Itm} (h : i.kind = 3) : [.int .u8 3] ++ (fz 39 [i.sn] ++ zb 40) = i.ent.cells := by
  unfold Itm.ent
  rw [if_neg (by omega), if_neg (by omega), h]
  simp only [Ent.cells, fz, u8l_app]
  simp [u8l, zb]
theorem zeroE_parts (x : Int) : Value.int .u8 x :: zb 79 = [.int .u8 x] ++ (fz 39 [] ++ zb 40) := by
  rw [fz_zero, ← zb_add]; rfl
end Go.Proofs.Ytmckngkmlhemoaa
