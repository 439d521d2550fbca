/- The item that an entry's bytes say (layer 14). -/
import Derived.Test.YtmckngkmlhemoaaN
import Derived.Test.YtmckngkmlhemoaaO4
namespace Go.Proofs.Ytmckngkmlhemoaa
open Go.RowKit
def Ent.kv (e : Ent) : List Int := e.k ++ e.v
theorem Ent.kv_bytes {e : Ent} (h : e.Ok) : Bytes 80 e.kv := ⟨by simp [Ent.kv, h.k.1, h.v.1], fun x hx => by
  rcases List.mem_append.1 hx with hx | hx
  · exact h.k.2 x hx
  · exact h.v.2 x hx⟩
theorem Ent.cells_kv (e : Ent) : e.cells = u8l e.kv := rfl
/-- What four bytes say. -/
def e8 (xs : List Int) (o : Nat) : Int := (num (fun i => (xs.getD (o + i) 0).toNat) 4 : Nat)
theorem getD_byte {n : Nat} {xs : List Int} (h : Bytes n xs) (j : Nat) : 0 ≤ xs.getD j 0 ∧ xs.getD j 0 < 256 := by
  rw [List.getD_eq_getElem?_getD]
  rcases hj : xs[j]? with _ | x
  · simp
  · exact h.2 x (List.mem_of_getElem? hj)
theorem getD_nat {n : Nat} {xs : List Int} (h : Bytes n xs) (j : Nat) : (xs.getD j 0).toNat < 256 := by
  have := getD_byte h j
  omega
theorem e8_ok {n : Nat} {xs : List Int} (h : Bytes n xs) (o : Nat) : okI (e8 xs o) := by
  have := num_lt (fun i => (xs.getD (o + i) 0).toNat) (fun i => getD_nat h _) 4
  have e1 : IntKind.i64.min = -9223372036854775808 := rfl
  have e2 : IntKind.i64.max = 9223372036854775807 := rfl
  show (Lit.int .i64 (e8 xs o)).wf = true
  simp only [Lit.wf, e1, e2, decide_eq_true_eq, Bool.and_eq_true, e8]
  omega
theorem byte_ok {n : Nat} {xs : List Int} (h : Bytes n xs) (j : Nat) : okI (xs.getD j 0) := by
  have := getD_byte h j
  have e1 : IntKind.i64.min = -9223372036854775808 := rfl
  have e2 : IntKind.i64.max = 9223372036854775807 := rfl
  show (Lit.int .i64 _).wf = true
  simp only [Lit.wf, e1, e2, decide_eq_true_eq, Bool.and_eq_true]
  omega
def Ent.kd (e : Ent) : Int := e.kv.getD 0 0
def Ent.it1 (e : Ent) : Itm := ⟨1, (e.kv.drop 1).take 32, e8 e.kv 40, e8 e.kv 44, e8 e.kv 48, e8 e.kv 52, 0, 0, List.replicate 32 0, 0, 0⟩
def Ent.it2 (e : Ent) : Itm := ⟨2, List.replicate 32 0, 0, 0, 0, 0, e8 e.kv 1, e8 e.kv 5, (e.kv.drop 40).take 32, e.kv.getD 72 0, e.kv.getD 73 0⟩
def Ent.it3 (e : Ent) : Itm := ⟨3, List.replicate 32 0, 0, 0, 0, 0, e8 e.kv 1, 0, List.replicate 32 0, 0, 0⟩
def itN (kd sn : Int) : Itm := ⟨kd, List.replicate 32 0, 0, 0, 0, 0, sn, 0, List.replicate 32 0, 0, 0⟩
/-- The item that an entry says. -/
def Ent.it (e : Ent) : Itm := if e.kd = 1 then e.it1 else if e.kd = 2 then e.it2 else if e.kd = 3 then e.it3 else itN e.kd 0
theorem sub_bytes {n : Nat} {xs : List Int} (h : Bytes n xs) (o m : Nat) (hm : o + m ≤ n) : Bytes m ((xs.drop o).take m) := ⟨by simp [h.1]; omega, fun x hx => h.2 x (List.mem_of_mem_drop (List.mem_of_mem_take hx))⟩
theorem it1_ok {e : Ent} (h : e.Ok) : e.it1.Ok := by
  have hb := Ent.kv_bytes h
  exact ⟨by simp [Ent.it1], sub_bytes hb 1 32 (by omega), e8_ok hb _, e8_ok hb _, e8_ok hb _, e8_ok hb _, okI_zero, okI_zero, bytes_zero 32, okI_zero, okI_zero⟩
theorem it2_ok {e : Ent} (h : e.Ok) : e.it2.Ok := by
  have hb := Ent.kv_bytes h
  exact ⟨by simp [Ent.it2], bytes_zero 32, okI_zero, okI_zero, okI_zero, okI_zero, e8_ok hb _, e8_ok hb _, sub_bytes hb 40 32 (by omega), byte_ok hb _, byte_ok hb _⟩
theorem itN_ok {kd sn : Int} (h : 0 ≤ kd ∧ kd < 256) (hs : okI sn) : (itN kd sn).Ok :=
  ⟨h, bytes_zero 32, okI_zero, okI_zero, okI_zero, okI_zero, hs, okI_zero, bytes_zero 32, okI_zero, okI_zero⟩
theorem it3_ok {e : Ent} (h : e.Ok) : e.it3.Ok := itN_ok (by omega) (e8_ok (Ent.kv_bytes h) _)
theorem it_ok {e : Ent} (h : e.Ok) : e.it.Ok := by
  unfold Ent.it
  split
  · exact it1_ok h
  split
  · exact it2_ok h
  split
  · exact it3_ok h
  · exact itN_ok (getD_byte (Ent.kv_bytes h) 0) okI_zero
theorem it_cells0 (kd : Int) : (itN kd 0).cells = zI kd := by
  simp only [Itm.cells, itN, Itm.sl, u8l_zb]
  simp [zI, List.replicate]
/-- What Item tells of an entry. -/
def itemOut (e : Ent) : Value := if e.it.right = true ∧ e.it.ent.kv = e.kv then .tuple #[.agg e.it.cells.toArray, .int .i64 0] else .tuple #[.agg (zI 0).toArray, .int .i64 4]
theorem itemOut_t {e : Ent} (h1 : e.it.right = true) (h2 : e.it.ent.kv = e.kv) : itemOut e = .tuple #[.agg e.it.cells.toArray, .int .i64 0] := if_pos ⟨h1, h2⟩
theorem itemOut_f {e : Ent} (h : ¬ (e.it.right = true ∧ e.it.ent.kv = e.kv)) : itemOut e = .tuple #[.agg (zI 0).toArray, .int .i64 4] := if_neg h
theorem Ent.len {e : Ent} (h : e.Ok) : e.cells.length = 80 := by rw [(Ent.fits h).length]; rfl
/-- A byte of an entry. -/
theorem Ent.byte {e : Ent} (h : e.Ok) (j : Nat) (hj : j < 80) : e.cells[j]? = some (.int .u8 (e.kv.getD j 0)) := by
  rw [Ent.cells_kv, u8l, List.getElem?_map, List.getD_eq_getElem?_getD]
  rw [List.getElem?_eq_getElem (by rw [(Ent.kv_bytes h).1]; exact hj)]
  rfl
theorem Ent.byteN {e : Ent} (h : e.Ok) (j : Nat) (hj : j < 80) : e.cells[j]? = some (.int .u8 ((e.kv.getD j 0).toNat : Nat)) := by
  rw [Ent.byte h j hj]
  have := getD_byte (Ent.kv_bytes h) j
  congr 2
  omega
theorem Ent.sub (e : Ent) (o m : Nat) : (e.cells.drop o).take m = u8l ((e.kv.drop o).take m) := by
  rw [Ent.cells_kv, u8l, ← List.map_drop, ← List.map_take]; rfl
/-- said: what four bytes of an entry say. -/
theorem said23e {e : Ent} (ok : e.Ok) {W w : World} {L : List (Nat × List Value × TypeId)} (M : Mem W w L) (i : Nat) {b : Nat} {t : TypeId} (hi : L[i]? = some (b, e.cells, t)) (off n c : Nat) (hn : 4 ≤ n) (hc : n ≤ c) (hc2 : c ≤ 80) (ho : off + 4 ≤ 80) :
    Calls Try.prog 23 #[.slice (some ⟨b, off, none⟩) n c] w fun r w' => r = .returned (.int .i64 (e8 e.kv off)) ∧ w = w' :=
  said23 (fun i => (e.kv.getD (off + i) 0).toNat) b off n c w (fun i => getD_nat (Ent.kv_bytes ok) _) hn hc (by omega) fun j hj => M.cell i hi (off + j) (Ent.byteN ok (off + j) (by omega))
theorem build26 (a b c d : Int) (u : World) : BuildRun Try.prog 26 #[(0, .int .i64 a), (1, .int .i64 b), (2, .int .i64 c), (3, .int .i64 d)] u (.agg #[.int .i64 a, .int .i64 b, .int .i64 c, .int .i64 d]) := ⟨by kernel_rfl⟩
theorem uncons {α : Type} {n : Nat} {xs : List α} (h : xs.length = n + 1) : ∃ x ys, xs = x :: ys ∧ ys.length = n := by
  cases xs with
  | nil => simp at h
  | cons x ys => exact ⟨x, ys, rfl, by simpa using h⟩
theorem build28_list : ∀ (xs : List Value), xs.length = 32 → ∀ (a b : Int) (u : World), BuildRun Try.prog 28 #[(0, .agg xs.toArray), (1, .int .i64 a), (2, .int .i64 b)] u (.agg (xs ++ [Value.int .i64 a, Value.int .i64 b]).toArray) := by
  intro xs h a b u
  obtain ⟨x0, xs0, rfl, h0⟩ := uncons (n := 31) h
  obtain ⟨x1, xs1, rfl, h1⟩ := uncons (n := 30) h0
  obtain ⟨x2, xs2, rfl, h2⟩ := uncons (n := 29) h1
  obtain ⟨x3, xs3, rfl, h3⟩ := uncons (n := 28) h2
  obtain ⟨x4, xs4, rfl, h4⟩ := uncons (n := 27) h3
  obtain ⟨x5, xs5, rfl, h5⟩ := uncons (n := 26) h4
  obtain ⟨x6, xs6, rfl, h6⟩ := uncons (n := 25) h5
  obtain ⟨x7, xs7, rfl, h7⟩ := uncons (n := 24) h6
  obtain ⟨x8, xs8, rfl, h8⟩ := uncons (n := 23) h7
  obtain ⟨x9, xs9, rfl, h9⟩ := uncons (n := 22) h8
  obtain ⟨x10, xs10, rfl, h10⟩ := uncons (n := 21) h9
  obtain ⟨x11, xs11, rfl, h11⟩ := uncons (n := 20) h10
  obtain ⟨x12, xs12, rfl, h12⟩ := uncons (n := 19) h11
  obtain ⟨x13, xs13, rfl, h13⟩ := uncons (n := 18) h12
  obtain ⟨x14, xs14, rfl, h14⟩ := uncons (n := 17) h13
  obtain ⟨x15, xs15, rfl, h15⟩ := uncons (n := 16) h14
  obtain ⟨x16, xs16, rfl, h16⟩ := uncons (n := 15) h15
  obtain ⟨x17, xs17, rfl, h17⟩ := uncons (n := 14) h16
  obtain ⟨x18, xs18, rfl, h18⟩ := uncons (n := 13) h17
  obtain ⟨x19, xs19, rfl, h19⟩ := uncons (n := 12) h18
  obtain ⟨x20, xs20, rfl, h20⟩ := uncons (n := 11) h19
  obtain ⟨x21, xs21, rfl, h21⟩ := uncons (n := 10) h20
  obtain ⟨x22, xs22, rfl, h22⟩ := uncons (n := 9) h21
  obtain ⟨x23, xs23, rfl, h23⟩ := uncons (n := 8) h22
  obtain ⟨x24, xs24, rfl, h24⟩ := uncons (n := 7) h23
  obtain ⟨x25, xs25, rfl, h25⟩ := uncons (n := 6) h24
  obtain ⟨x26, xs26, rfl, h26⟩ := uncons (n := 5) h25
  obtain ⟨x27, xs27, rfl, h27⟩ := uncons (n := 4) h26
  obtain ⟨x28, xs28, rfl, h28⟩ := uncons (n := 3) h27
  obtain ⟨x29, xs29, rfl, h29⟩ := uncons (n := 2) h28
  obtain ⟨x30, xs30, rfl, h30⟩ := uncons (n := 1) h29
  obtain ⟨x31, xs31, rfl, h31⟩ := uncons (n := 0) h30
  obtain rfl := List.eq_nil_of_length_eq_zero h31
  exact ⟨by kernel_rfl⟩
section
variable {P : Program}
theorem yields_build {ops : Array Oper} {S : World → Prop} {op : Oper} {a : Act} (hw : Region.wanted op (yielded ops a.tmps) = true) (t : TypeId) (parts : List (Nat × Operand)) (ho : op.op = .build t parts.toArray) (ps : List (Nat × Value)) (hps : (parts.map fun x => (x.1, a.eval x.2)) = ps) (r : Value)
    (hr : ∀ w, BuildRun P t ps.toArray w r) : YieldsIf P ops S op r a :=
  .inl ⟨hw, fun w _ => by
    have hr := (hr w).run
    rw [← hps] at hr
    unfold execOp
    simp only [ho, List.map_toArray, Sem.run_bind, hr, Result.andThen_ok, Sem.run_pure]⟩
end
theorem fits_one : ∀ {cs : List Value} {ks : List IntKind}, Fits cs ks → ∀ v ∈ cs, v.oneCell' = true
  | [], _, _, v, hv => by simp at hv
  | _ :: _, [], h, _, _ => h.elim
  | x :: xs, k :: ks, h, v, hv => by
    obtain ⟨⟨z, rfl, _⟩, h⟩ := h
    rcases List.mem_cons.1 hv with rfl | hv
    · rfl
    · exact fits_one h v hv
theorem item_one {i : Itm} (ok : i.Ok) : ∀ v ∈ i.cells, v.oneCell' = true := fits_one (Itm.fits ok)
theorem arrayAt39 (b : Nat) (u : World) : (Instr.arrayAt 24 (.slice (some ⟨b, 1, none⟩) 39 39)).run Try.prog u = .ok (.pointer (some ⟨b, 1, none⟩)) u := by kernel_rfl
theorem arrayAt40 (b : Nat) (u : World) : (Instr.arrayAt 24 (.slice (some ⟨b, 40, none⟩) 40 40)).run Try.prog u = .ok (.pointer (some ⟨b, 40, none⟩)) u := by kernel_rfl
end Go.Proofs.Ytmckngkmlhemoaa
