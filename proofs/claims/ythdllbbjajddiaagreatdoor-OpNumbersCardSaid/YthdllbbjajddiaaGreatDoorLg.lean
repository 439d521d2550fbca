/- The law OpGets of layer 25 (op): it returns true at every input. Printed by genLg.py. -/
import Derived.Test.YthdllbbjajddiaaGreatDoorApO
import Derived.Test.YthdllbbjajddiaaGreatDoorRf
import Derived.Test.YthdllbbjajddiaaGreatDoorKo
set_option linter.all false
namespace Go.Proofs.YthdllbbjajddiaaGreatDoor
open Go.RowKit Go.Maps Go.WideMaps
theorem opL_pos (kd x n s : Int) (A1 : Option Addr) (n1 c1 : Nat) (A2 : Option Addr) (n2 c2 : Nat) : 0 < (opL kd x n s A1 n1 c1 A2 n2 c2).length := Nat.succ_pos 5
theorem opL_le (kd x n s : Int) (A1 : Option Addr) (n1 c1 : Nat) (A2 : Option Addr) (n2 c2 : Nat) : (opL kd x n s A1 n1 c1 A2 n2 c2).length ≤ 2 ^ 24 := by
  show 6 ≤ 2 ^ 24
  decide
/-- What Get gives, in one form. -/
def goR (l : List Int) : OpR := (dec l).getD ⟨0, 0, 0, 0, [], []⟩
def goE (l : List Int) : Int := if (dec l).isSome then 0 else 4
theorem got_any {w w' : World} {l : List Int} {e : Ending} (h : GetP w l e w') : Below w.heap.size w w' ∧ ∃ (D1 : Array ElF) (A1 : Option Addr) (c1 : Nat) (D2 : Array ElP) (A2 : Option Addr) (c2 : Nat), e = .returned (.tuple #[opV (goR l).kd (goR l).at_ (goR l).n (goR l).sn A1 D1.size c1 A2 D2.size c2, .int .i64 (goE l)]) ∧ D1.toList.map Subtype.val = (goR l).news ∧ D2.toList.map Subtype.val = (goR l).puts ∧ D1.size ≤ 255 ∧ D2.size ≤ 255 ∧
      w'.ownsRow w.heap.size 53 36 (.slice A1 D1.size c1) D1.size (flatS (fun i => cellsF D1[i]!) D1.size) ∧ w'.ownsRow w.heap.size 48 35 (.slice A2 D2.size c2) D2.size (flatS (fun i => cellsP D2[i]!) D2.size) := by
  obtain ⟨hb, ⟨hd, rfl⟩ | ⟨o, D1, A1, c1, D2, A2, c2, hd, rfl, e1, e2, f1, f2, o1, o2⟩⟩ := h
  · refine ⟨hb, #[], none, 0, #[], none, 0, ?_, ?_, ?_, by decide, by decide, World.ownsRow_nil _ _ _ _, World.ownsRow_nil _ _ _ _⟩
    · unfold goR goE; rw [hd]; rfl
    · unfold goR; rw [hd]; rfl
    · unfold goR; rw [hd]; rfl
  · refine ⟨hb, D1, A1, c1, D2, A2, c2, ?_, ?_, ?_, f1, f2, o1, o2⟩
    · unfold goR goE; rw [hd]; rfl
    · unfold goR; rw [hd]; exact e1
    · unfold goR; rw [hd]; exact e2
theorem arr_val {α : Type} {p : α → Prop} {D E : Array {x // p x}} (h : D.toList.map Subtype.val = E.toList.map Subtype.val) : D = E :=
  Array.toList_inj.1 ((List.map_inj_right fun _ _ h => Subtype.ext h).1 h)
theorem row_val {w : World} {base : Nat} {e : TypeId} {s : Nat} {A : Option Addr} {n c : Nat} {F : Nat → List Value} (hF : Wide s F) (ho : w.ownsRow base e s (.slice A n c) n (flatS F n)) : SArr w w.heap.size A n s F := by
  obtain ⟨_, _, q, h, -⟩ := srow_arr hF ho
  cases q
  exact h
theorem pair_dist {Aa Ab : Option Addr} {na nb ca cb : Nat} (dab : ∀ g, (Value.slice Aa na ca).ownBlock = some g → (Value.slice Ab nb cb).ownBlock ≠ some g) : DistS 2 fun j => .slice (match j with | 0 => Aa | _ => Ab) (match j with | 0 => na | _ => nb) (match j with | 0 => ca | _ => cb) := fun j k hj hk hne g h1 => by
  match j, hj, k, hk with
  | 0, _, 0, _ => exact absurd rfl hne
  | 0, _, 1, _ => exact dab g h1
  | 1, _, 0, _ => exact fun h => dab g h h1
  | 1, _, 1, _ => exact absurd rfl hne
set_option maxRecDepth 100000 in
set_option maxHeartbeats 2000000 in
/-- Two ops that lie apart, each in a list of its own. -/
theorem apartO2 (w : World) (base : Nat) (I : Nat → ElF) (P : Nat → ElP) (kd x s n0 : Int) (n1 n2 : Nat) (A1 : Option Addr) (c1 : Nat) (A2 : Option Addr) (c2 : Nat) (A3 : Option Addr) (c3 : Nat) (A4 : Option Addr) (c4 : Nat) (h1 : n1 ≤ 255) (h2 : n2 ≤ 255)
    (r1 : w.ownsRow base 53 36 (.slice A1 n1 c1) n1 (flatS (fun i => cellsF (I i)) n1)) (r2 : w.ownsRow base 48 35 (.slice A2 n2 c2) n2 (flatS (fun i => cellsP (P i)) n2))
    (r3 : w.ownsRow base 53 36 (.slice A3 n1 c3) n1 (flatS (fun i => cellsF (I i)) n1)) (r4 : w.ownsRow base 48 35 (.slice A4 n2 c4) n2 (flatS (fun i => cellsP (P i)) n2))
    (d13 : ∀ k, (Value.slice A1 n1 c1).ownBlock = some k → (Value.slice A3 n1 c3).ownBlock ≠ some k) (d24 : ∀ k, (Value.slice A2 n2 c2).ownBlock = some k → (Value.slice A4 n2 c4).ownBlock ≠ some k) (hbase : base ≤ w.heap.size) (w1 w2 w3 : World)
    (e1 : w1 = w.alloc (.cells (opL kd x s n0 A1 n1 c1 A2 n2 c2).toArray 26)) (e2 : w2 = w1.alloc (.cells (opL kd x s n0 A3 n1 c3 A4 n2 c4).toArray 26)) (e3 : w3 = w2.alloc (.cells #[.slice (some ⟨w.heap.size, 0, none⟩) 1 1, .slice (some ⟨w1.heap.size, 0, none⟩) 1 1] 28)) :
    Calls Tryz.prog 27 #[.slice (some ⟨w2.heap.size, 0, none⟩) 2 2] w3 fun e w' => e = .returned (.bool true) ∧ Below base w w' := by
  have s1 : w1.heap.size = w.heap.size + 1 := by rw [e1]; simp
  have s2 : w2.heap.size = w1.heap.size + 1 := by rw [e2]; simp
  have s3 : w3.heap.size = w2.heap.size + 1 := by rw [e3]; simp
  have k1 : Keeps (fun _ => False) w w1 := e1 ▸ Keeps.alloc _ w _
  have k2 : Keeps (fun _ => False) w w2 := k1.trans (e2 ▸ Keeps.alloc _ w1 _) fun _ _ h => h
  have k3 : Keeps (fun _ => False) w w3 := k2.trans (e3 ▸ Keeps.alloc _ w2 _) fun _ _ h => h
  have q1 : w1.heap[w.heap.size]? = some (.cells (opL kd x s n0 A1 n1 c1 A2 n2 c2).toArray 26 (0, 0)) := e1 ▸ heap_new w _
  have q2 : w2.heap[w1.heap.size]? = some (.cells (opL kd x s n0 A3 n1 c3 A4 n2 c4).toArray 26 (0, 0)) := e2 ▸ heap_new w1 _
  have q1' : w3.heap[w.heap.size]? = some (.cells (opL kd x s n0 A1 n1 c1 A2 n2 c2).toArray 26 (0, 0)) := by rw [e3]; exact heap_old (e2 ▸ heap_old q1)
  have q2' : w3.heap[w1.heap.size]? = some (.cells (opL kd x s n0 A3 n1 c3 A4 n2 c4).toArray 26 (0, 0)) := by rw [e3]; exact heap_old q2
  have q3 : w3.heap[w2.heap.size]? = some (.cells #[.slice (some ⟨w.heap.size, 0, none⟩) 1 1, .slice (some ⟨w1.heap.size, 0, none⟩) 1 1] 28 (0, 0)) := e3 ▸ heap_new w2 _
  refine (apartO w3 base 2 2 (some ⟨w2.heap.size, 0, none⟩) (fun _ => kd) (fun _ => x) (fun _ => s) (fun _ => n0) (fun j => match j with | 0 => A1 | _ => A3) (fun j => match j with | 0 => n1 | _ => n1) (fun j => match j with | 0 => c1 | _ => c3) (fun j => match j with | 0 => A2 | _ => A4) (fun j => match j with | 0 => n2 | _ => n2) (fun j => match j with | 0 => c2 | _ => c4) (fun j => match j with | 0 => w.heap.size | _ => w1.heap.size) (by omega) (by omega) (fun j hj => ?_) (Arr.ofBlock 2 _ q3 fun j hj => ?_) (fun j hj => ?_) (fun j k hj hk hne => ?_) (fun j hj => ?_) (pair_dist d13) (fun j hj => ?_) (pair_dist d24) (by omega)).mono ?_
  · match j, hj with
    | 0, _ => exact ⟨Nat.le_trans h1 (by decide), Nat.le_trans h2 (by decide)⟩
    | 1, _ => exact ⟨Nat.le_trans h1 (by decide), Nat.le_trans h2 (by decide)⟩
  · match j, hj with
    | 0, _ => rfl
    | 1, _ => rfl
  · match j, hj with
    | 0, _ => exact ⟨q1', hbase⟩
    | 1, _ => exact ⟨q2', by show base ≤ w1.heap.size; omega⟩
  · match j, hj, k, hk with
    | 0, _, 0, _ => exact absurd rfl hne
    | 0, _, 1, _ => show w.heap.size ≠ w1.heap.size; omega
    | 1, _, 0, _ => show w1.heap.size ≠ w.heap.size; omega
    | 1, _, 1, _ => exact absurd rfl hne
  · match j, hj with
    | 0, _ => exact ⟨_, wideF I, fun i => oneF _, fun i hi => absurd hi (by omega), k3.row r1 fun _ _ h => h⟩
    | 1, _ => exact ⟨_, wideF I, fun i => oneF _, fun i hi => absurd hi (by omega), k3.row r3 fun _ _ h => h⟩
  · match j, hj with
    | 0, _ => exact ⟨_, wideP P, fun i => oneP _, fun i hi => absurd hi (by omega), k3.row r2 fun _ _ h => h⟩
    | 1, _ => exact ⟨_, wideP P, fun i => oneP _, fun i hi => absurd hi (by omega), k3.row r4 fun _ _ h => h⟩
  · rintro e w' ⟨he, hb⟩
    exact ⟨he, (k3.below (B := base) (fun _ h => h.elim) hbase).trans hb⟩
theorem apartO3 (w : World) (base : Nat) (I : Nat → ElF) (P : Nat → ElP) (kd x s n0 : Int) (n1 n2 : Nat) (A1 : Option Addr) (c1 : Nat) (A2 : Option Addr) (c2 : Nat) (A3 : Option Addr) (c3 : Nat) (A4 : Option Addr) (c4 : Nat) (h1 : n1 ≤ 255) (h2 : n2 ≤ 255)
    (r1 : w.ownsRow base 53 36 (.slice A1 n1 c1) n1 (flatS (fun i => cellsF (I i)) n1)) (r2 : w.ownsRow base 48 35 (.slice A2 n2 c2) n2 (flatS (fun i => cellsP (P i)) n2))
    (r3 : w.ownsRow base 53 36 (.slice A3 n1 c3) n1 (flatS (fun i => cellsF (I i)) n1)) (r4 : w.ownsRow base 48 35 (.slice A4 n2 c4) n2 (flatS (fun i => cellsP (P i)) n2))
    (d13 : ∀ k, (Value.slice A1 n1 c1).ownBlock = some k → (Value.slice A3 n1 c3).ownBlock ≠ some k) (d24 : ∀ k, (Value.slice A2 n2 c2).ownBlock = some k → (Value.slice A4 n2 c4).ownBlock ≠ some k) (hbase : base ≤ w.heap.size) :
    Calls Tryz.prog 27 #[.slice (some ⟨w.heap.size + 1 + 1, 0, none⟩) 2 2] (((w.alloc (.cells (opL kd x s n0 A1 n1 c1 A2 n2 c2).toArray 26)).alloc (.cells (opL kd x s n0 A3 n1 c3 A4 n2 c4).toArray 26)).alloc (.cells #[.slice (some ⟨w.heap.size, 0, none⟩) 1 1, .slice (some ⟨w.heap.size + 1, 0, none⟩) 1 1] 28)) fun e w' => e = .returned (.bool true) ∧ Below base w w' := by
  obtain ⟨o1, h8⟩ : ∃ o, o = Obj.cells (opL kd x s n0 A1 n1 c1 A2 n2 c2).toArray 26 := ⟨_, rfl⟩
  obtain ⟨o2, h9⟩ : ∃ o, o = Obj.cells (opL kd x s n0 A3 n1 c3 A4 n2 c4).toArray 26 := ⟨_, rfl⟩
  have s1 : (w.alloc o1).heap.size = w.heap.size + 1 := by simp
  have s2 : ((w.alloc o1).alloc o2).heap.size = w.heap.size + 1 + 1 := by simp
  have h := apartO2 w base I P kd x s n0 n1 n2 A1 c1 A2 c2 A3 c3 A4 c4 h1 h2 r1 r2 r3 r4 d13 d24 hbase (w.alloc o1) ((w.alloc o1).alloc o2) _ (by rw [h8]) (by rw [h9]) rfl
  rw [s2, s1] at h
  rw [← h8, ← h9]
  exact h
set_option maxRecDepth 100000 in
set_option maxHeartbeats 8000000 in
theorem gets4 (f : Nat → Int) (A : Option Addr) (n c : Nat) (W : World) (hnc : n ≤ c) (ha : Arr W W.heap.size A n fun j => .int .u8 (f j)) (hA : A = none → n = 0 ∧ c = 0) (hf : ∀ i, i < n → 0 ≤ f i ∧ f i < 256) (hnm : n ≤ 140737488355328) :
    Calls Tryz.prog 7 #[.slice A n c] W fun e W' => e = .returned (.bool true) ∧ Below W.heap.size W W' := by
  have HA := Lib.hid ha
  have HN := Lib.hid hA
  have HB := Lib.hid (lF_byt hf)
  clear ha hf hA
  go_enter Tryz.func7, Tryz.ntmps7
  by_cases h5 : 5000 < n
  · have t1 : decide ((5000 : Int) < n) = true := by simp; omega
    go_wp2_with fail
    refine (awake8 W).mono ?_
    rintro e w1 ⟨rfl, hb⟩
    have B := Lib.hid hb
    clear hb
    go_wp2_with fail
    go_ret
    exact ⟨rfl, B.out⟩
  have t1 : decide ((5000 : Int) < n) = false := by simp; omega
  have hn5 : n ≤ 5000 := by omega
  go_wp2_with fail
  refine (lentB f A n c W (by omega) HA.out HN.out).mono ?_
  rintro e w1 ⟨g, rfl, hg0, hg, hb⟩
  have G := Lib.hid hg
  have G0 := Lib.hid hg0
  have B := Lib.hid hb
  have LEN : Hid (((((List.range n).map fun j => Value.int .u8 (f j)) ++ markRowB 1 12).toArray).size = n + 12) := Lib.hid (by simp [markRowB_length])
  obtain ⟨l, hl⟩ : ∃ l, l = lF f n := ⟨_, rfl⟩
  have HL : Hid (∀ j, j < n → f j = l.getD j 0) := Lib.hid fun j hj => by rw [hl, lF_at hj]
  have LL : Hid (l.length = n) := Lib.hid (by rw [hl]; exact lF_len f n)
  rw [← hl] at HB
  have X : Hid (Arr w1 w1.heap.size (some ⟨g, 0, none⟩) n fun j => .int .u8 (l.getD j 0)) := Lib.hid (arr_congr (lent_arr hg) fun j hj => by rw [HL.out j hj])
  clear hg0 hg hb hl t1 h5
  go_wp2_with fail
  refine (get19 l (some ⟨g, 0, none⟩) n (n + 12) w1 LL.out (by omega) (by omega) HB.out X.out).mono ?_
  rintro e w2 h2
  obtain ⟨b2, D1, A1, c1, D2, A2, c2, rfl, e1, e2, f1, f2, o1, o2⟩ := got_any h2
  obtain ⟨kd, hkd⟩ : ∃ k, k = (goR l).kd := ⟨_, rfl⟩
  obtain ⟨x, hx⟩ : ∃ k, k = (goR l).at_ := ⟨_, rfl⟩
  obtain ⟨s, hs⟩ : ∃ k, k = (goR l).n := ⟨_, rfl⟩
  obtain ⟨n0, hn0⟩ : ∃ k, k = (goR l).sn := ⟨_, rfl⟩
  obtain ⟨r, hr⟩ : ∃ k, k = goE l := ⟨_, rfl⟩
  rw [← hkd, ← hx, ← hs, ← hn0, ← hr]
  have EQ := Lib.hid (And.intro hkd (And.intro hx (And.intro hs (And.intro hn0 hr))))
  obtain ⟨n1, hn1⟩ : ∃ k, k = D1.size := ⟨_, rfl⟩
  obtain ⟨n2, hn2⟩ : ∃ k, k = D2.size := ⟨_, rfl⟩
  obtain ⟨I, hI⟩ : ∃ I : Nat → ElF, I = fun i => D1[i]! := ⟨_, rfl⟩
  obtain ⟨P, hP⟩ : ∃ P : Nat → ElP, P = fun i => D2[i]! := ⟨_, rfl⟩
  have E1 := Lib.hid e1
  have E2 := Lib.hid e2
  have EI : Hid (∀ D : Array ElF, D.toList.map Subtype.val = (goR l).news → D.size = n1 ∧ (fun i => cellsF D[i]!) = fun i => cellsF (I i)) := Lib.hid fun D h => by
    obtain rfl := arr_val (h.trans E1.out.symm)
    rw [hn1, hI]
    exact ⟨rfl, rfl⟩
  have EP : Hid (∀ D : Array ElP, D.toList.map Subtype.val = (goR l).puts → D.size = n2 ∧ (fun i => cellsP D[i]!) = fun i => cellsP (P i)) := Lib.hid fun D h => by
    obtain rfl := arr_val (h.trans E2.out.symm)
    rw [hn2, hP]
    exact ⟨rfl, rfl⟩
  rw [(EI.out D1 e1).2, (EI.out D1 e1).1] at o1
  rw [(EP.out D2 e2).2, (EP.out D2 e2).1] at o2
  rw [← hn1, ← hn2]
  rw [← hn1] at f1
  rw [← hn2] at f2
  have R1 := Lib.hid (row_more o1 B.out.size)
  have R2 := Lib.hid (row_more o2 B.out.size)
  have L1 : Hid (∀ k, (Value.slice A1 n1 c1).ownBlock = some k → k < w2.heap.size) := Lib.hid fun k hk => (row_lt o1 hk).2
  have L2 : Hid (∀ k, (Value.slice A2 n2 c2).ownBlock = some k → k < w2.heap.size) := Lib.hid fun k hk => (row_lt o2 hk).2
  have O1 := Lib.hid (opL_one kd x s n0 A1 n1 c1 A2 n2 c2)
  clear hkd hx hs hn0 hr hn1 hn2 hI hP e1 e2 o1 o2 h2 E1 E2
  have G := Lib.hid ((b2.block _ (heap_lt G.out)).trans G.out)
  have X := Lib.hid ((X.out.below b2 (Nat.le_refl _)).more b2.size)
  have B := Lib.hid (B.out.trans (b2.mono B.out.size))
  clear b2
  go_upto_region 5 with (refine wpList_boxed rfl 26 4 rfl rfl zOp (zeroVOp _) (.tmp 19) rfl rfl rfl (opL kd x s n0 A1 n1 c1 A2 n2 c2) rfl rfl sizeOp rfl O1.out ?_; intro w3 hb3 hh3 hs3)
  obtain ⟨p, hq⟩ : ∃ q, q = w2.heap.size := ⟨_, rfl⟩
  rw [← hq] at hh3 ⊢
  have Qp := Lib.hid hh3
  have b3 := hb3
  have W23 : Hid (w2.heap.size ≤ w3.heap.size) := Lib.hid hb3.size
  have G := Lib.hid ((b3.block _ (heap_lt G.out)).trans G.out)
  have X := Lib.hid ((X.out.below b3 (Nat.le_refl _)).more b3.size)
  have R1 := Lib.hid ((Keeps.fresh (S := fun _ => False) b3).row R1.out fun _ _ h => h)
  have R2 := Lib.hid ((Keeps.fresh (S := fun _ => False) b3).row R2.out fun _ _ h => h)
  have B := Lib.hid (B.out.trans (b3.mono B.out.size))
  clear hb3 hh3 hs3 hq b3
  go_wp2_with fail
  refine (get19 l (some ⟨g, 0, none⟩) n (n + 12) w3 LL.out (by omega) (by omega) HB.out X.out).mono ?_
  rintro e w4 h4
  obtain ⟨b4, D3, A3, c3, D4, A4, c4, rfl, e3, e4, -, -, o3, o4⟩ := got_any h4
  rw [← EQ.out.1, ← EQ.out.2.1, ← EQ.out.2.2.1, ← EQ.out.2.2.2.1, ← EQ.out.2.2.2.2]
  rw [(EI.out D3 e3).2, (EI.out D3 e3).1] at o3
  rw [(EP.out D4 e4).2, (EP.out D4 e4).1] at o4
  rw [(EI.out D3 e3).1, (EP.out D4 e4).1]
  have R3 := Lib.hid (row_more o3 B.out.size)
  have R4 := Lib.hid (row_more o4 B.out.size)
  have LW := Lib.hid (Nat.le_refl w3.heap.size)
  have D13 : Hid (∀ k, (Value.slice A1 n1 c1).ownBlock = some k → (Value.slice A3 n1 c3).ownBlock ≠ some k) := Lib.hid fun k h1 h3 => Nat.lt_irrefl _ (Nat.lt_of_lt_of_le (Nat.lt_of_lt_of_le (L1.out k h1) (by have := W23.out; omega)) (row_lt o3 h3).1)
  have D24 : Hid (∀ k, (Value.slice A2 n2 c2).ownBlock = some k → (Value.slice A4 n2 c4).ownBlock ≠ some k) := Lib.hid fun k h1 h3 => Nat.lt_irrefl _ (Nat.lt_of_lt_of_le (Nat.lt_of_lt_of_le (L2.out k h1) (by have := W23.out; omega)) (row_lt o4 h3).1)
  have O2 := Lib.hid (opL_one kd x s n0 A3 n1 c3 A4 n2 c4)
  clear e3 e4 o3 o4 h4 L1 L2 LW
  have G := Lib.hid ((b4.block _ (heap_lt G.out)).trans G.out)
  have X := Lib.hid ((X.out.below b4 (Nat.le_refl _)).more b4.size)
  have R1 := Lib.hid ((Keeps.fresh (S := fun _ => False) b4).row R1.out fun _ _ h => h)
  have R2 := Lib.hid ((Keeps.fresh (S := fun _ => False) b4).row R2.out fun _ _ h => h)
  have Qp := Lib.hid ((b4.block _ (heap_lt Qp.out)).trans Qp.out)
  have B := Lib.hid (B.out.trans (b4.mono B.out.size))
  clear b4 W23
  go_upto_region 6 with (refine wpList_boxed rfl 26 6 rfl rfl zOp (zeroVOp _) (.tmp 24) rfl rfl rfl (opL kd x s n0 A3 n1 c3 A4 n2 c4) rfl rfl sizeOp rfl O2.out ?_; intro w5 hb3 hh3 hs3)
  obtain ⟨q, hq⟩ : ∃ q, q = w4.heap.size := ⟨_, rfl⟩
  rw [← hq] at hh3 ⊢
  have Qq := Lib.hid hh3
  have b3 := hb3
  have G := Lib.hid ((b3.block _ (heap_lt G.out)).trans G.out)
  have X := Lib.hid ((X.out.below b3 (Nat.le_refl _)).more b3.size)
  have R1 := Lib.hid ((Keeps.fresh (S := fun _ => False) b3).row R1.out fun _ _ h => h)
  have R2 := Lib.hid ((Keeps.fresh (S := fun _ => False) b3).row R2.out fun _ _ h => h)
  have Qp := Lib.hid ((b3.block _ (heap_lt Qp.out)).trans Qp.out)
  have R3 := Lib.hid ((Keeps.fresh (S := fun _ => False) b3).row R3.out fun _ _ h => h)
  have R4 := Lib.hid ((Keeps.fresh (S := fun _ => False) b3).row R4.out fun _ _ h => h)
  have B := Lib.hid (B.out.trans (b3.mono B.out.size))
  clear hb3 hh3 hs3 hq b3
  have XB : Hid (Arr w5 W.heap.size A n fun j => .int .u8 (f j)) := Lib.hid (HA.out.below B.out (Nat.le_refl _))
  go_wp2_with fail
  refine (keptB f A g n c W.heap.size w5 (by omega) XB.out G.out).mono ?_
  rintro e _ ⟨rfl, m, rfl⟩
  obtain ⟨w6, hw6⟩ : ∃ w, w = w5.drewN m := ⟨_, rfl⟩
  have b6 : Below w5.heap.size w5 w6 := hw6 ▸ below_drewN (Below.refl _ _) m
  rw [← hw6]
  clear XB X hw6
  have G := Lib.hid ((b6.block _ (heap_lt G.out)).trans G.out)
  have R1 := Lib.hid ((Keeps.fresh (S := fun _ => False) b6).row R1.out fun _ _ h => h)
  have R2 := Lib.hid ((Keeps.fresh (S := fun _ => False) b6).row R2.out fun _ _ h => h)
  have Qp := Lib.hid ((b6.block _ (heap_lt Qp.out)).trans Qp.out)
  have R3 := Lib.hid ((Keeps.fresh (S := fun _ => False) b6).row R3.out fun _ _ h => h)
  have R4 := Lib.hid ((Keeps.fresh (S := fun _ => False) b6).row R4.out fun _ _ h => h)
  have Qq := Lib.hid ((b6.block _ (heap_lt Qq.out)).trans Qq.out)
  have B := Lib.hid (B.out.trans (b6.mono B.out.size))
  clear b6
  go_wp2_with fail
  refine (overB g n _ w6 (by omega) G.out LEN.out).mono ?_
  rintro e w7 ⟨rfl, k7⟩
  have Qp := Lib.hid (k7.heap Qp.out (fun e => blk_ne Qp.out G.out (by decide) e))
  have Qq := Lib.hid (k7.heap Qq.out (fun e => blk_ne Qq.out G.out (by decide) e))
  have R1 := Lib.hid (k7.row R1.out fun k h1 h2 => row_ne_cells R1.out G.out (by decide) (h2 ▸ h1))
  have R2 := Lib.hid (k7.row R2.out fun k h1 h2 => row_ne_cells R2.out G.out (by decide) (h2 ▸ h1))
  have R3 := Lib.hid (k7.row R3.out fun k h1 h2 => row_ne_cells R3.out G.out (by decide) (h2 ▸ h1))
  have R4 := Lib.hid (k7.row R4.out fun k h1 h2 => row_ne_cells R4.out G.out (by decide) (h2 ▸ h1))
  have B := Lib.hid (B.out.trans (k7.below (fun k e => by have e : k = g := e; rw [e]; exact G0.out) B.out.size))
  have X : Hid (Arr w7 w7.heap.size A n fun j => .int .u8 (l.getD j 0)) := Lib.hid (arr_congr ((HA.out.below B.out (Nat.le_refl _)).more B.out.size) fun j hj => by rw [HL.out j hj])
  clear k7 G LEN G0
  go_wp2_with fail
  refine (rget22 l A n c w7 LL.out (by omega) hnc HB.out X.out).mono ?_
  rintro e w8 h8
  obtain ⟨b8, D5, A5, c5, D6, A6, c6, rfl, e5, e6, -, -, o5, o6⟩ := got_any h8
  rw [← EQ.out.1, ← EQ.out.2.1, ← EQ.out.2.2.1, ← EQ.out.2.2.2.1, ← EQ.out.2.2.2.2]
  rw [(EI.out D5 e5).2, (EI.out D5 e5).1] at o5
  rw [(EP.out D6 e6).2, (EP.out D6 e6).1] at o6
  rw [(EI.out D5 e5).1, (EP.out D6 e6).1]
  have R5 := Lib.hid (row_more o5 B.out.size)
  have R6 := Lib.hid (row_more o6 B.out.size)
  have O3 := Lib.hid (opL_one kd x s n0 A5 n1 c5 A6 n2 c6)
  clear e5 e6 o5 o6 h8 X
  have R1 := Lib.hid ((Keeps.fresh (S := fun _ => False) b8).row R1.out fun _ _ h => h)
  have R2 := Lib.hid ((Keeps.fresh (S := fun _ => False) b8).row R2.out fun _ _ h => h)
  have R3 := Lib.hid ((Keeps.fresh (S := fun _ => False) b8).row R3.out fun _ _ h => h)
  have R4 := Lib.hid ((Keeps.fresh (S := fun _ => False) b8).row R4.out fun _ _ h => h)
  have Qp := Lib.hid ((b8.block _ (heap_lt Qp.out)).trans Qp.out)
  have Qq := Lib.hid ((b8.block _ (heap_lt Qq.out)).trans Qq.out)
  have B := Lib.hid (B.out.trans (b8.mono B.out.size))
  clear b8
  go_upto_region 10 with (refine wpList_boxed rfl 26 8 rfl rfl zOp (zeroVOp _) (.tmp 35) rfl rfl rfl (opL kd x s n0 A5 n1 c5 A6 n2 c6) rfl rfl sizeOp rfl O3.out ?_; intro w9 hb3 hh3 hs3)
  obtain ⟨u, hq⟩ : ∃ q, q = w8.heap.size := ⟨_, rfl⟩
  rw [← hq] at hh3 ⊢
  have Qu := Lib.hid hh3
  have b3 := hb3
  have R1 := Lib.hid ((Keeps.fresh (S := fun _ => False) b3).row R1.out fun _ _ h => h)
  have R2 := Lib.hid ((Keeps.fresh (S := fun _ => False) b3).row R2.out fun _ _ h => h)
  have R3 := Lib.hid ((Keeps.fresh (S := fun _ => False) b3).row R3.out fun _ _ h => h)
  have R4 := Lib.hid ((Keeps.fresh (S := fun _ => False) b3).row R4.out fun _ _ h => h)
  have Qp := Lib.hid ((b3.block _ (heap_lt Qp.out)).trans Qp.out)
  have Qq := Lib.hid ((b3.block _ (heap_lt Qq.out)).trans Qq.out)
  have R5 := Lib.hid ((Keeps.fresh (S := fun _ => False) b3).row R5.out fun _ _ h => h)
  have R6 := Lib.hid ((Keeps.fresh (S := fun _ => False) b3).row R6.out fun _ _ h => h)
  have B := Lib.hid (B.out.trans (b3.mono B.out.size))
  clear hb3 hh3 hs3 hq b3
  have RP := Lib.hid (range_of Qp.out)
  have RU := Lib.hid (range_of Qu.out)
  go_wp2_with (first | (refine wpList_load_midG rfl 26 (.tmp 4) rfl p 0 rfl (opL kd x s n0 A1 n1 c1 A2 n2 c2) _ RP.out Tryz.underlying26 rfl sizeOp ?_) | (refine wpList_load_midG rfl 26 (.tmp 8) rfl u 0 rfl (opL kd x s n0 A5 n1 c5 A6 n2 c6) _ RU.out Tryz.underlying26 rfl sizeOp ?_))
  refine (same23 I P kd x s n0 A1 A5 n1 c1 c5 A2 A6 n2 c2 c6 w9 (by omega) (by omega) (row_val (wideF I) R1.out) (row_val (wideP P) R2.out) (row_val (wideF I) R5.out) (row_val (wideP P) R6.out)).mono ?_
  rintro e w10 ⟨rfl, b10⟩
  have R1 := Lib.hid ((Keeps.fresh (S := fun _ => False) b10).row R1.out fun _ _ h => h)
  have R2 := Lib.hid ((Keeps.fresh (S := fun _ => False) b10).row R2.out fun _ _ h => h)
  have R3 := Lib.hid ((Keeps.fresh (S := fun _ => False) b10).row R3.out fun _ _ h => h)
  have R4 := Lib.hid ((Keeps.fresh (S := fun _ => False) b10).row R4.out fun _ _ h => h)
  have Qp := Lib.hid ((b10.block _ (heap_lt Qp.out)).trans Qp.out)
  have Qq := Lib.hid ((b10.block _ (heap_lt Qq.out)).trans Qq.out)
  have R5 := Lib.hid ((Keeps.fresh (S := fun _ => False) b10).row R5.out fun _ _ h => h)
  have R6 := Lib.hid ((Keeps.fresh (S := fun _ => False) b10).row R6.out fun _ _ h => h)
  have Qu := Lib.hid ((b10.block _ (heap_lt Qu.out)).trans Qu.out)
  have B := Lib.hid (B.out.trans (b10.mono B.out.size))
  have RQ := Lib.hid (range_of Qq.out)
  have RU := Lib.hid (range_of Qu.out)
  clear b10 RP
  go_wp2_with (first | (refine wpList_load_midG rfl 26 (.tmp 6) rfl q 0 rfl (opL kd x s n0 A3 n1 c3 A4 n2 c4) _ RQ.out Tryz.underlying26 rfl sizeOp ?_) | (refine wpList_load_midG rfl 26 (.tmp 8) rfl u 0 rfl (opL kd x s n0 A5 n1 c5 A6 n2 c6) _ RU.out Tryz.underlying26 rfl sizeOp ?_))
  refine (same23 I P kd x s n0 A3 A5 n1 c3 c5 A4 A6 n2 c4 c6 w10 (by omega) (by omega) (row_val (wideF I) R3.out) (row_val (wideP P) R4.out) (row_val (wideF I) R5.out) (row_val (wideP P) R6.out)).mono ?_
  rintro e w11 ⟨rfl, b11⟩
  have R1 := Lib.hid ((Keeps.fresh (S := fun _ => False) b11).row R1.out fun _ _ h => h)
  have R2 := Lib.hid ((Keeps.fresh (S := fun _ => False) b11).row R2.out fun _ _ h => h)
  have R3 := Lib.hid ((Keeps.fresh (S := fun _ => False) b11).row R3.out fun _ _ h => h)
  have R4 := Lib.hid ((Keeps.fresh (S := fun _ => False) b11).row R4.out fun _ _ h => h)
  have Qp := Lib.hid ((b11.block _ (heap_lt Qp.out)).trans Qp.out)
  have Qq := Lib.hid ((b11.block _ (heap_lt Qq.out)).trans Qq.out)
  have R5 := Lib.hid ((Keeps.fresh (S := fun _ => False) b11).row R5.out fun _ _ h => h)
  have R6 := Lib.hid ((Keeps.fresh (S := fun _ => False) b11).row R6.out fun _ _ h => h)
  have Qu := Lib.hid ((b11.block _ (heap_lt Qu.out)).trans Qu.out)
  have B := Lib.hid (B.out.trans (b11.mono B.out.size))
  have RP := Lib.hid (range_of Qp.out)
  have RQ : Hid (∀ wx, Below w11.heap.size w11 wx → wx.rangeAt q 0 (opL kd x s n0 A3 n1 c3 A4 n2 c4)) := Lib.hid fun wx hb => range_of ((hb.block _ (heap_lt Qq.out)).trans Qq.out)
  have RQ2 := Lib.hid (RQ.out (w11.alloc (.cells (opL kd x s n0 A1 n1 c1 A2 n2 c2).toArray 26)) ((Below.refl _ _).alloc (Nat.le_refl _) _))
  obtain ⟨iO, hO, hO0, hO1, hO2⟩ := infoParts infoOz
  have HIO := Lib.hid (And.intro hO (And.intro hO0 hO1))
  clear b11 RU hO hO0 hO1 hO2
  go_wp2_with (first | (refine wpList_load_midG rfl 26 (.tmp 4) rfl p 0 rfl (opL kd x s n0 A1 n1 c1 A2 n2 c2) _ RP.out Tryz.underlying26 rfl sizeOp ?_) | (refine wpList_load_midG rfl 26 (.tmp 6) rfl q 0 rfl (opL kd x s n0 A3 n1 c3 A4 n2 c4) _ RQ2.out Tryz.underlying26 rfl sizeOp ?_) | (refine wpList_slice1 rfl 28 26 (.tmp 51) rfl (opL kd x s n0 A1 n1 c1 A2 n2 c2) rfl iO (.agg zO.toArray) Tryz.underlying28 HIO.out.1 HIO.out.2.1 HIO.out.2.2 (opL_pos _ _ _ _ _ _ _ _ _ _) (opL_le _ _ _ _ _ _ _ _ _ _) ?_) | (refine wpList_slice1 rfl 28 26 (.tmp 53) rfl (opL kd x s n0 A3 n1 c3 A4 n2 c4) rfl iO (.agg zO.toArray) Tryz.underlying28 HIO.out.1 HIO.out.2.1 HIO.out.2.2 (opL_pos _ _ _ _ _ _ _ _ _ _) (opL_le _ _ _ _ _ _ _ _ _ _) ?_))
  refine (apartO3 w11 W.heap.size I P kd x s n0 n1 n2 A1 c1 A2 c2 A3 c3 A4 c4 f1 f2 R1.out R2.out R3.out R4.out D13.out D24.out B.out.size).mono ?_
  rintro e w12 ⟨rfl, b12⟩
  have B := Lib.hid (B.out.trans b12)
  clear b12
  go_wp2_with fail
  refine (awake8 w12).mono ?_
  rintro e w13 ⟨rfl, b13⟩
  have B := Lib.hid (B.out.trans (b13.mono B.out.size))
  clear b13
  go_wp2_with fail
  go_ret
  exact ⟨rfl, B.out⟩
end Go.Proofs.YthdllbbjajddiaaGreatDoor
