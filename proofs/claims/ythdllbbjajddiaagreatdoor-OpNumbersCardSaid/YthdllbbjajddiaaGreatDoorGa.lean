/- Layer 25 (op): the program's Get. -/
import Derived.Test.YthdllbbjajddiaaGreatDoorPy
import Derived.Deep.DeepCutAuto
set_option linter.all false
namespace Go.Proofs.YthdllbbjajddiaaGreatDoor
open Go.RowKit Go.Maps Go.WideMaps
theorem nl_arr (D : Array ElF) : nl (fun i => D[i]!) D.size = D.toList.map Subtype.val := by
  unfold nl
  apply List.ext_getElem?
  intro i
  rw [List.getElem?_map, List.getElem?_map]
  by_cases h : i < D.size
  · rw [List.getElem?_range h, Array.getElem?_toList, Array.getElem?_eq_getElem h]
    show some (D[i]!).1 = some (D[i]).1
    rw [getElem!_pos D i h]
  · rw [List.getElem?_eq_none (by simp; omega), Array.getElem?_toList, Array.getElem?_eq_none (by omega)]; rfl
theorem pl_arr (D : Array ElP) : pl (fun i => D[i]!) D.size = D.toList.map Subtype.val := by
  unfold pl
  apply List.ext_getElem?
  intro i
  rw [List.getElem?_map, List.getElem?_map]
  by_cases h : i < D.size
  · rw [List.getElem?_range h, Array.getElem?_toList, Array.getElem?_eq_getElem h]
    show some (D[i]!).1 = some (D[i]).1
    rw [getElem!_pos D i h]
  · rw [List.getElem?_eq_none (by simp; omega), Array.getElem?_toList, Array.getElem?_eq_none (by omega)]; rfl
theorem sizeOp : (Tryz.prog.info? 26).map (·.size) = some 6 := by kernel_rfl
def zOp : List Value := opL 0 0 0 0 none 0 0 none 0 0
theorem zeroVOp (u : World) : (zeroValue 26).run Tryz.prog u = .ok (.agg zOp.toArray) u := by kernel_rfl
theorem buildOp0 (u : World) : BuildRun Tryz.prog 26 #[] u (.agg zOp.toArray) := ⟨by kernel_rfl⟩
theorem buildOpK (k : Int) (u : World) : BuildRun Tryz.prog 26 #[(0, .int .u8 k)] u (.agg (opL k 0 0 0 none 0 0 none 0 0).toArray) := ⟨by kernel_rfl⟩
theorem opL_one (kd x n s : Int) (A1 : Option Addr) (n1 c1 : Nat) (A2 : Option Addr) (n2 c2 : Nat) : ∀ v ∈ opL kd x n s A1 n1 c1 A2 n2 c2, v.oneCell' = true := by
  intro v hv
  simp [opL] at hv
  rcases hv with rfl | rfl | rfl | rfl | rfl | rfl <;> rfl
/-- An op in memory, and its rows; what is left of the bytes. -/
structure OpAt (w wx : World) (r p q : Nat) (l : List Int) (o : OpR) (st : Rd) (D1 : Array ElF) (A1 : Option Addr) (c1 : Nat) (D2 : Array ElP) (A2 : Option Addr) (c2 : Nat) : Prop where
  parse : parse (l, false) = (o, st)
  cell : wx.heap[p]? = some (.cells (opL o.kd o.at_ o.n o.sn A1 D1.size c1 A2 D2.size c2).toArray 26 (0, 0))
  row1 : wx.ownsRow w.heap.size 53 36 (.slice A1 D1.size c1) D1.size (flatS (fun i => cellsF D1[i]!) D1.size)
  row2 : wx.ownsRow w.heap.size 48 35 (.slice A2 D2.size c2) D2.size (flatS (fun i => cellsP D2[i]!) D2.size)
  news : D1.toList.map Subtype.val = o.news
  puts : D2.toList.map Subtype.val = o.puts
  few1 : D1.size ≤ 255
  few2 : D2.size ≤ 255
  rdr : Rdr wx r st.1 st.2
  res : wx.heap[q]? = some (.cells zOp.toArray 26 (0, 0))
  below : Below w.heap.size w wx
def Joined (w : World) (r p q : Nat) (l : List Int) (wx : World) : Prop := ∃ o st D1 A1 c1 D2 A2 c2, OpAt w wx r p q l o st D1 A1 c1 D2 A2 c2
/-- What Get gives. -/
def GetP (w : World) (l : List Int) (e : Ending) (w' : World) : Prop :=
  Below w.heap.size w w' ∧ ((dec l = none ∧ e = .returned (.tuple #[opV 0 0 0 0 none 0 0 none 0 0, .int .i64 4])) ∨
    ∃ (o : OpR) (D1 : Array ElF) (A1 : Option Addr) (c1 : Nat) (D2 : Array ElP) (A2 : Option Addr) (c2 : Nat), dec l = some o ∧ e = .returned (.tuple #[opV o.kd o.at_ o.n o.sn A1 D1.size c1 A2 D2.size c2, .int .i64 0]) ∧ D1.toList.map Subtype.val = o.news ∧ D2.toList.map Subtype.val = o.puts ∧ D1.size ≤ 255 ∧ D2.size ≤ 255 ∧
      w'.ownsRow w.heap.size 53 36 (.slice A1 D1.size c1) D1.size (flatS (fun i => cellsF D1[i]!) D1.size) ∧ w'.ownsRow w.heap.size 48 35 (.slice A2 D2.size c2) D2.size (flatS (fun i => cellsP D2[i]!) D2.size))
theorem row_ne_cells {w : World} {base b n s : Nat} {e t : TypeId} {v : Value} {xs : List Value} {cs : Array Value} {z : Nat × Nat} (h : w.ownsRow base e s v n xs) (hb : w.heap[b]? = some (.cells cs t z)) (ht : t ≠ e) : v.ownBlock ≠ some b := by
  intro hk
  rcases h.2 with ⟨rfl, _⟩ | ⟨g, cap, cur, rfl, _, hg, _⟩
  · cases hk
  · have e1 : g = b := by simpa [Value.ownBlock] using hk
    subst e1
    rw [hg] at hb
    injection hb with hb
    injection hb with h1 h2 h3
    exact ht h2.symm
theorem opL_set4 (kd x n s : Int) (A1 : Option Addr) (n1 c1 : Nat) (A2 : Option Addr) (n2 c2 : Nat) (B : Option Addr) (m d : Nat) : (opL kd x n s A1 n1 c1 A2 n2 c2).set 4 (.slice B m d) = opL kd x n s B m d A2 n2 c2 := rfl
theorem opL_set5 (kd x n s : Int) (A1 : Option Addr) (n1 c1 : Nat) (A2 : Option Addr) (n2 c2 : Nat) (B : Option Addr) (m d : Nat) : (opL kd x n s A1 n1 c1 A2 n2 c2).set 5 (.slice B m d) = opL kd x n s A1 n1 c1 B m d := rfl
theorem parse_1 {l : List Int} {s1 s2 s3 : Rd} {ns : List Fr} {ps : List Pu} (h : numR 1 (l, false) = (1, s1)) (h2 : rowR freshR s1 = (ns, s2)) (h3 : rowR putR s2 = (ps, s3)) : parse (l, false) = (⟨1, 0, 0, 0, ns, ps⟩, s3) := by
  unfold parse
  rw [h]; dsimp only
  rw [if_pos rfl, h2]; dsimp only
  rw [h3]
theorem parse_2 {l : List Int} {s1 s2 s3 : Rd} {a n : Int} (h : numR 1 (l, false) = (2, s1)) (h2 : numR 2 s1 = (a, s2)) (h3 : numR 2 s2 = (n, s3)) : parse (l, false) = (⟨2, a, n, 0, [], []⟩, s3) := by
  unfold parse
  rw [h]; dsimp only
  rw [if_neg (by decide), if_pos rfl, h2]; dsimp only
  rw [h3]
theorem parse_3 {l : List Int} {k : Int} {s1 s2 : Rd} {s : Int} (h : numR 1 (l, false) = (k, s1)) (h1 : k ≠ 1) (h2 : k ≠ 2) (h3 : numR 4 s1 = (s, s2)) : parse (l, false) = (⟨k, 0, 0, s, [], []⟩, s2) := by
  unfold parse
  rw [h]; dsimp only
  rw [if_neg h1, if_neg h2, h3]
set_option maxRecDepth 100000 in
set_option maxHeartbeats 4000000 in
theorem get19 (l : List Int) (A : Option Addr) (n c : Nat) (w : World) (hn : l.length = n) (hn2 : n ≤ 1099511627776) (hnc : n ≤ c) (hb : Byt l) (ha : Arr w w.heap.size A n fun j => .int .u8 (l.getD j 0)) :
    Calls Tryz.prog 13 #[.slice A n c] w (GetP w l) := by
  have HA := Lib.hid ha
  have HB := Lib.hid hb
  have HL := Lib.hid hn
  clear ha hb hn
  go_enter Tryz.func13, Tryz.ntmps13
  go_upto_region 2 with (refine wpList_laid rfl 26 rfl zOp (zeroVOp _) ?_)
  obtain ⟨w1, hw1⟩ : ∃ w1, w1 = (w.alloc (.cells zOp.toArray 26)).alloc (.cells #[.slice A n c, .bool false] 73) := ⟨_, rfl⟩
  have B1 : Hid (Below w.heap.size w w1) := Lib.hid (by rw [hw1]; exact ((Below.refl _ _).alloc (Nat.le_refl _) _).alloc (by simp) _)
  have Z1 : Hid (w1.heap[w.heap.size]? = some (.cells zOp.toArray 26 (0, 0))) := Lib.hid (by rw [hw1]; exact heap_old (heap_new w _))
  have HR1 : Hid (w1.heap[w.heap.size + 1]? = some (.cells #[.slice A n c, .bool false] 73 (0, 0))) := Lib.hid (by rw [hw1]; exact heap_new_at _ (by simp))
  have R1 : Hid (Rdr w1 (w.heap.size + 1) l false) := Lib.hid ⟨HB.out, by rw [HL.out]; exact hn2, A, c, by rw [HL.out]; exact hnc, by rw [HL.out]; exact HR1.out, by rw [HL.out]; exact (HA.out.below B1.out (Nat.le_refl _)).more (Nat.le_succ _)⟩
  rw [← hw1]
  obtain ⟨q, hq⟩ : ∃ q, q = w.heap.size := ⟨_, rfl⟩
  obtain ⟨r, hr⟩ : ∃ r, r = w.heap.size + 1 := ⟨_, rfl⟩
  rw [← hr] at R1 ⊢
  rw [← hq] at Z1 ⊢
  have hqr : q < r := by omega
  have HQ : Hid (w.heap.size = q) := Lib.hid hq.symm
  clear hw1 hq hr HR1
  go_cut [5] from 9 to 12 (fun s5 wx => ∃ k s1 p, numR 1 (l, false) = (k, s1) ∧ s5 = .pointer (some ⟨p, 0, none⟩) ∧ r < p ∧ wx.heap[p]? = some (.cells (opL k 0 0 0 none 0 0 none 0 0).toArray 26 (0, 0)) ∧ Rdr wx r s1.1 s1.2 ∧ wx.heap[q]? = some (.cells zOp.toArray 26 (0, 0)) ∧ Below w.heap.size w wx)
  case first =>
    go_wp2_with fail
    refine (numE w1 r 1 (l, false) R1.out (by omega) (by omega)).mono ?_
    rintro e w2 ⟨k, s1, he, rfl, hr, hk⟩
    have hk0 := num1_bd HB.out (st := (l, false))
    rw [he] at hk0
    have k1 : 0 ≤ k := hk0.1
    have k2 : k < 256 := hk0.2
    have R2 := Lib.hid hr
    have Z2 := Lib.hid (hk.heap Z1.out (by omega))
    have B2 := Lib.hid (B1.out.trans (hk.below (fun i e => by have e : i = r := e; have := HQ.out; omega) B1.out.size))
    have EN := Lib.hid he
    have BO := Lib.hid (buildOpK k)
    have OO := Lib.hid (opL_one k 0 0 0 none 0 0 none 0 0)
    clear hr hk he hk0
    have RL := R2.out.lt
    go_wp2_with (first | (refine wpList_buildG rfl 26 [(0, .tmp 11)] rfl [(0, .int .u8 k)] rfl _ (BO.out _) ?_) | (refine wpList_boxed rfl 26 5 rfl rfl zOp (zeroVOp _) (.tmp 12) rfl rfl rfl (opL k 0 0 0 none 0 0 none 0 0) rfl rfl sizeOp rfl OO.out ?_; intro w3 hb3 hh3 hs3))
    go_meet
    exact ⟨k, s1, _, EN.out, rfl, RL, hh3, R2.out.fresh hb3, (hb3.block q (heap_lt Z2.out)).trans Z2.out, B2.out.trans (hb3.mono B2.out.size)⟩
  case rest =>
    obtain ⟨k, s1, p, he, rfl, hrp, hh3, hr3, hz3, hb3⟩ := hcut
    have EN := Lib.hid he
    have P3 := Lib.hid hh3
    have R3 := Lib.hid hr3
    have Z3 := Lib.hid hz3
    have B3 := Lib.hid hb3
    clear he hh3 hr3 hz3 hb3 R1 Z1 B1
    refine ‹∀ (a : Act) (w_1 : World), Code.wp Tryz.prog _ _ a w_1 → _› _ _ ?_
    apply wp_seq_k
    intro _ _
    go_cut [14] from 13 to 37 (fun s14 wx => Joined w r p q l wx)
    case first =>
      have c0 : wc.cell? ⟨p, 0, none⟩ = some (.int .u8 k) := block_cell P3.out 0 _ rfl
      have hrl := R3.out.lt
      have hql := heap_lt Z3.out
      have hww : w.heap.size ≤ r := by have := HQ.out; omega
      by_cases h1 : k = 1
      · subst h1
        go_wp2_with fail
        clear c0
        refine (rowF wc r s1 R3.out).mono ?_
        rintro e w4 ⟨D1, v1, rfl, e1, ho1, hf1, hr, hk⟩
        obtain ⟨A1, d1, rfl, -⟩ := srow_arr (wideF fun i => D1[i]!) ho1
        have P4 := Lib.hid (hk.heap P3.out (by omega))
        have Z4 := Lib.hid (hk.heap Z3.out (by omega))
        have B4 := Lib.hid (B3.out.trans (hk.below (fun i e => by have e : i = r := e; omega) B3.out.size))
        have hro4 : ∀ i, (Value.slice A1 D1.size d1).ownBlock = some i → p < i ∧ w.heap.size ≤ i := fun i hi => by
          have := (ho1.lt i hi).1
          have := heap_lt P3.out
          omega
        obtain ⟨s2, hs2⟩ : ∃ s2, s2 = (rowR freshR s1).2 := ⟨_, rfl⟩
        rw [← hs2] at hr
        have ER1 : Hid (rowR freshR s1 = (D1.toList.map Subtype.val, s2)) := Lib.hid (by rw [e1, hs2])
        clear hs2 e1
        have c4 : w4.cell? ⟨p, 4, none⟩ = some (.slice none 0 0) := block_cell P4.out 4 _ rfl
        have f4 : w4.frozen? ⟨p, 4, none⟩ = false := frozen_of_row w4 _ _ _ _ P4.out
        obtain ⟨w5, hw5⟩ : ∃ w5, w5 = w4.setCell ⟨p, 4, none⟩ (.slice A1 D1.size d1) := ⟨_, rfl⟩
        have hk5 : Keeps (fun k => k = p) w4 w5 := by rw [hw5]; exact Keeps.setCell _ _ _ _ rfl
        have P5 : Hid (w5.heap[p]? = some (.cells (opL 1 0 0 0 A1 D1.size d1 none 0 0).toArray 26 (0, 0))) := Lib.hid (by rw [hw5]; exact set_blk P4.out)
        have hw5' := hw5.symm
        have R5 := Lib.hid (hr.keeps hk5 fun k h1 h2 => by omega)
        have Z5 := Lib.hid (hk5.heap Z4.out (by omega))
        have B5 := Lib.hid (B4.out.trans (hk5.below (fun i e => by have e : i = p := e; omega) B4.out.size))
        have HRO := Lib.hid hro4
        have O5 := Lib.hid (hk5.row ho1 fun k h1 h2 => by have := (hro4 k h1).1; omega)
        have HF1 := Lib.hid hf1
        clear hw5 hk5 ho1 hr hk hro4 hf1
        go_upto_region 7 with fail
        clear c4 f4 hw5'
        go_wp2_with fail
        refine (rowP w5 r s2 R5.out).mono ?_
        rintro e w6 ⟨D2, v2, rfl, e2, ho2, hf2, hr, hk⟩
        obtain ⟨A2, d2, rfl, -⟩ := srow_arr (wideP fun i => D2[i]!) ho2
        have hpl5 := heap_lt P5.out
        have P6 := Lib.hid (hk.heap P5.out (by omega))
        have Z6 := Lib.hid (hk.heap Z5.out (by omega))
        have O6 := Lib.hid (hk.row O5.out fun i h1 h2 => by have := (HRO.out i h1).1; omega)
        have B6 := Lib.hid (B5.out.trans (hk.below (fun i e => by have e : i = r := e; omega) B5.out.size))
        obtain ⟨s3, hs3⟩ : ∃ s3, s3 = (rowR putR s2).2 := ⟨_, rfl⟩
        rw [← hs3] at hr
        have ER2 : Hid (rowR putR s2 = (D2.toList.map Subtype.val, s3)) := Lib.hid (by rw [e2, hs3])
        have c5 : w6.cell? ⟨p, 5, none⟩ = some (.slice none 0 0) := block_cell P6.out 5 _ rfl
        have f5 : w6.frozen? ⟨p, 5, none⟩ = false := frozen_of_row w6 _ _ _ _ P6.out
        have hro6 : ∀ i, (Value.slice A2 D2.size d2).ownBlock = some i → p < i ∧ w.heap.size ≤ i := fun i hi => by
          have := (ho2.lt i hi).1
          omega
        obtain ⟨w7, hw7⟩ : ∃ w7, w7 = w6.setCell ⟨p, 5, none⟩ (.slice A2 D2.size d2) := ⟨_, rfl⟩
        have hk7 : Keeps (fun k => k = p) w6 w7 := by rw [hw7]; exact Keeps.setCell _ _ _ _ rfl
        have J : Hid (Joined w r p q l w7) := Lib.hid ⟨⟨1, 0, 0, 0, D1.toList.map Subtype.val, D2.toList.map Subtype.val⟩, s3, D1, A1, d1, D2, A2, d2,
          { parse := parse_1 EN.out ER1.out ER2.out
            cell := by rw [hw7]; exact set_blk P6.out
            row1 := row_more (hk7.row O6.out fun k h1 h2 => by have := (HRO.out k h1).1; omega) B3.out.size
            row2 := row_more (hk7.row ho2 fun k h1 h2 => by have := (hro6 k h1).1; omega) B5.out.size
            news := rfl
            puts := rfl
            few1 := HF1.out
            few2 := hf2
            rdr := hr.keeps hk7 fun k h1 h2 => by omega
            res := hk7.heap Z6.out (by omega)
            below := B6.out.trans (hk7.below (fun i e => by have e : i = p := e; omega) B6.out.size) }⟩
        have hw7' := hw7.symm
        clear hw7 hk7 ho2 hr hk hro6 hf2 hs3 e2
        go_wp2_with fail
        go_meet
        exact J.out
      have t1 : (k == 1) = false := by simpa using h1
      by_cases h2 : k = 2
      · subst h2
        go_wp2_with fail
        clear c0
        refine (numE wc r 2 s1 R3.out (by omega) (by omega)).mono ?_
        rintro e w4 ⟨a, s2, e1, rfl, hr, hk⟩
        have P4 := Lib.hid (hk.heap P3.out (by omega))
        have Z4 := Lib.hid (hk.heap Z3.out (by omega))
        have B4 := Lib.hid (B3.out.trans (hk.below (fun i e => by have e : i = r := e; omega) B3.out.size))
        have R4 := Lib.hid hr
        have E1 := Lib.hid e1
        clear hr hk e1
        go_wp2_with fail
        refine (numE w4 r 2 s2 R4.out (by omega) (by omega)).mono ?_
        rintro e w5 ⟨m, s3, e2, rfl, hr, hk⟩
        have P5 := Lib.hid (hk.heap P4.out (by omega))
        have Z5 := Lib.hid (hk.heap Z4.out (by omega))
        have B5 := Lib.hid (B4.out.trans (hk.below (fun i e => by have e : i = r := e; omega) B4.out.size))
        have c1' : w5.cell? ⟨p, 1, none⟩ = some (.int .i64 0) := block_cell P5.out 1 _ rfl
        have f1' : w5.frozen? ⟨p, 1, none⟩ = false := frozen_of_row w5 _ _ _ _ P5.out
        have c2' : w5.cell? ⟨p, 2, none⟩ = some (.int .i64 0) := block_cell P5.out 2 _ rfl
        have f2' : w5.frozen? ⟨p, 2, none⟩ = false := frozen_of_row w5 _ _ _ _ P5.out
        obtain ⟨w7, hw7⟩ : ∃ w7, w7 = (w5.setCell ⟨p, 1, none⟩ (.int .i64 a)).setCell ⟨p, 2, none⟩ (.int .i64 m) := ⟨_, rfl⟩
        have hk7 : Keeps (fun k => k = p) w5 w7 := by rw [hw7]; exact (Keeps.setCell (fun k => k = p) w5 ⟨p, 1, none⟩ _ rfl).trans (Keeps.setCell (fun k => k = p) _ ⟨p, 2, none⟩ _ rfl) fun _ _ h => h
        have J : Hid (Joined w r p q l w7) := Lib.hid ⟨⟨2, a, m, 0, [], []⟩, s3, #[], none, 0, #[], none, 0,
          { parse := parse_2 EN.out E1.out e2
            cell := by rw [hw7]; exact set_blk (set_blk P5.out)
            row1 := World.ownsRow_nil _ _ _ _
            row2 := World.ownsRow_nil _ _ _ _
            news := rfl
            puts := rfl
            few1 := by decide
            few2 := by decide
            rdr := hr.keeps hk7 fun k h1 h2 => by omega
            res := hk7.heap Z5.out (by omega)
            below := B5.out.trans (hk7.below (fun i e => by have e : i = p := e; omega) B5.out.size) }⟩
        have hw7' := hw7.symm
        clear hw7 hk7 hr hk e2
        go_wp2_with fail
        go_meet
        exact J.out
      · have t2 : (k == 2) = false := by simpa using h2
        have HK12 := Lib.hid (And.intro h1 h2)
        clear h1 h2
        go_wp2_with fail
        clear c0
        refine (numE wc r 4 s1 R3.out (by omega) (by omega)).mono ?_
        rintro e w5 ⟨m, s3, e2, rfl, hr, hk⟩
        have P5 := Lib.hid (hk.heap P3.out (by omega))
        have Z5 := Lib.hid (hk.heap Z3.out (by omega))
        have B5 := Lib.hid (B3.out.trans (hk.below (fun i e => by have e : i = r := e; omega) B3.out.size))
        have c3' : w5.cell? ⟨p, 3, none⟩ = some (.int .i64 0) := block_cell P5.out 3 _ rfl
        have f3' : w5.frozen? ⟨p, 3, none⟩ = false := frozen_of_row w5 _ _ _ _ P5.out
        obtain ⟨w7, hw7⟩ : ∃ w7, w7 = w5.setCell ⟨p, 3, none⟩ (.int .i64 m) := ⟨_, rfl⟩
        have hk7 : Keeps (fun k => k = p) w5 w7 := by rw [hw7]; exact Keeps.setCell _ _ _ _ rfl
        have J : Hid (Joined w r p q l w7) := Lib.hid ⟨⟨k, 0, 0, m, [], []⟩, s3, #[], none, 0, #[], none, 0,
          { parse := parse_3 EN.out HK12.out.1 HK12.out.2 e2
            cell := by rw [hw7]; exact set_blk P5.out
            row1 := World.ownsRow_nil _ _ _ _
            row2 := World.ownsRow_nil _ _ _ _
            news := rfl
            puts := rfl
            few1 := by decide
            few2 := by decide
            rdr := hr.keeps hk7 fun k h1 h2 => by omega
            res := hk7.heap Z5.out (by omega)
            below := B5.out.trans (hk7.below (fun i e => by have e : i = p := e; omega) B5.out.size) }⟩
        have hw7' := hw7.symm
        clear hw7 hk7 hr hk e2
        go_wp2_with fail
        go_meet
        exact J.out
    case rest =>
      obtain ⟨o, st, D1, A1, d1, D2, A2, d2, h⟩ := hcut
      have H := Lib.hid h
      obtain ⟨AR, cR, hc1, hc2, hc3⟩ := h.rdr.ex
      have ZO := Lib.hid (opL_one 0 0 0 0 none 0 0 none 0 0)
      have r0 : wc.cell? ⟨r, 0, none⟩ = some (.slice AR st.1.length cR) := block_cell hc2 0 _ rfl
      have r1 : wc.cell? ⟨r, 1, none⟩ = some (.bool st.2) := block_cell hc2 1 _ rfl
      clear hc1 hc2 hc3 h
      by_cases hb : st.2 = true
      · have HD : Hid (dec l = none) := Lib.hid (by unfold dec; rw [H.out.parse]; exact if_pos (.inl hb))
        rw [hb] at r1
        clear hb
        go_wp2_with (first | (refine wpList_buildG rfl 26 [] rfl [] rfl _ (buildOp0 _) ?_) | (refine wpList_store_segK rfl 26 (.tmp 2) (.tmp 55) rfl q 0 rfl zOp rfl zOp 26 H.out.res sizeOp (Nat.le_refl _) ZO.out rfl ?_; intro w9 h9 k9 s9))
        rw [splice_whole _ _ rfl] at h9
        have hz : w9.rangeAt q 0 zOp := fun j v hj => block_cell h9 _ v (by rw [Nat.zero_add]; simpa using hj)
        refine bodyPost_ret (results_cell_mid rfl _ _ q _ _ rfl hz Tryz.underlying26 rfl sizeOp) rfl ?_
        exact ⟨H.out.below.trans (k9.below (fun i e => by have e : i = q := e; have := HQ.out; omega) H.out.below.size), .inl ⟨HD.out, rfl⟩⟩
      have hb2 : st.2 = false := by simpa using hb
      rw [hb2] at r1
      by_cases hl : st.1 = []
      rotate_left
      · have HD : Hid (dec l = none) := Lib.hid (by unfold dec; rw [H.out.parse]; exact if_pos (.inr (.inl hl)))
        have hpos : 0 < st.1.length := List.length_pos_iff.2 hl
        obtain ⟨m, hm⟩ : ∃ m, m = st.1.length := ⟨_, rfl⟩
        rw [← hm] at r0 hpos
        have t0 : decide ((0 : Int) < (m : Int)) = true := by simp; omega
        have t0' : decide (0 < m) = true := by simp; omega
        clear hl hb hb2 hm
        go_wp2_with (first | (refine wpList_buildG rfl 26 [] rfl [] rfl _ (buildOp0 _) ?_) | (refine wpList_store_segK rfl 26 (.tmp 2) (.tmp 55) rfl q 0 rfl zOp rfl zOp 26 H.out.res sizeOp (Nat.le_refl _) ZO.out rfl ?_; intro w9 h9 k9 s9))
        rw [splice_whole _ _ rfl] at h9
        have hz : w9.rangeAt q 0 zOp := fun j v hj => block_cell h9 _ v (by rw [Nat.zero_add]; simpa using hj)
        refine bodyPost_ret (results_cell_mid rfl _ _ q _ _ rfl hz Tryz.underlying26 rfl sizeOp) rfl ?_
        exact ⟨H.out.below.trans (k9.below (fun i e => by have e : i = q := e; have := HQ.out; omega) H.out.below.size), .inl ⟨HD.out, rfl⟩⟩
      have HRD : Hid (dec l = if rightB o = false then none else some o) := Lib.hid (by
        unfold dec
        rw [H.out.parse]
        dsimp only
        by_cases hr : rightB o = false
        · rw [if_pos (.inr (.inr hr)), if_pos hr]
        · rw [if_neg (fun h => h.elim hb fun h => h.elim (fun h => h hl) hr), if_neg hr])
      have hl0 : st.1.length = 0 := by rw [hl]; rfl
      rw [hl0] at r0
      clear hb hb2 hl hl0
      have RA : Hid (wc.rangeAt p 0 (opL o.kd o.at_ o.n o.sn A1 D1.size d1 A2 D2.size d2)) := Lib.hid (range_of H.out.cell)
      have hd1 := H.out.few1
      have hd2 := H.out.few2
      obtain ⟨_, _, e1, ha1, -⟩ := srow_arr (wideF fun i => D1[i]!) H.out.row1
      cases e1
      obtain ⟨_, _, e1, ha2, -⟩ := srow_arr (wideP fun i => D2[i]!) H.out.row2
      cases e1
      have HA1 := Lib.hid ha1
      have HA2 := Lib.hid ha2
      clear ha1 ha2
      go_wp2_with (refine wpList_load_midG rfl 26 (.tmp 5) rfl p 0 rfl (opL o.kd o.at_ o.n o.sn A1 D1.size d1 A2 D2.size d2) _ RA.out Tryz.underlying26 rfl sizeOp ?_)
      refine (right10 (fun i => D1[i]!) (fun i => D2[i]!) o.kd o.at_ o.n o.sn A1 D1.size d1 A2 D2.size d2 wc (by omega) (by omega) HA1.out HA2.out).mono ?_
      have hoo : opR o.kd o.at_ o.n o.sn (fun i => D1[i]!) D1.size (fun i => D2[i]!) D2.size = o := by
        unfold opR
        rw [nl_arr, pl_arr, H.out.news, H.out.puts]
      rw [hoo]
      rintro e w8 ⟨rfl, hb8⟩
      have B8 := Lib.hid (H.out.below.trans (hb8.mono H.out.below.size))
      have Z8 := Lib.hid ((hb8.block q (heap_lt H.out.res)).trans H.out.res)
      have P8 := Lib.hid ((hb8.block p (heap_lt H.out.cell)).trans H.out.cell)
      have RA8 : Hid (w8.rangeAt p 0 (opL o.kd o.at_ o.n o.sn A1 D1.size d1 A2 D2.size d2)) := Lib.hid (range_of P8.out)
      have O1 := Lib.hid ((Keeps.fresh (S := fun _ => False) hb8).row H.out.row1 fun _ _ h => h)
      have O2 := Lib.hid ((Keeps.fresh (S := fun _ => False) hb8).row H.out.row2 fun _ _ h => h)
      obtain ⟨R, hR⟩ : ∃ R, R = rightB o := ⟨_, rfl⟩
      rw [← hR] at HRD ⊢
      clear hR hoo hb8 r0 r1
      cases R with
      | false =>
        have HD : Hid (dec l = none) := Lib.hid (by rw [HRD.out]; rfl)
        go_wp2_with (first | (refine wpList_buildG rfl 26 [] rfl [] rfl _ (buildOp0 _) ?_) | (refine wpList_store_segK rfl 26 (.tmp 2) (.tmp 55) rfl q 0 rfl zOp rfl zOp 26 Z8.out sizeOp (Nat.le_refl _) ZO.out rfl ?_; intro w9 h9 k9 s9))
        rw [splice_whole _ _ rfl] at h9
        have hz : w9.rangeAt q 0 zOp := fun j v hj => block_cell h9 _ v (by rw [Nat.zero_add]; simpa using hj)
        refine bodyPost_ret (results_cell_mid rfl _ _ q _ _ rfl hz Tryz.underlying26 rfl sizeOp) rfl ?_
        exact ⟨B8.out.trans (k9.below (fun i e => by have e : i = q := e; have := HQ.out; omega) B8.out.size), .inl ⟨HD.out, rfl⟩⟩
      | true =>
        have HD : Hid (dec l = some o) := Lib.hid (by rw [HRD.out]; rfl)
        have OO := Lib.hid (opL_one o.kd o.at_ o.n o.sn A1 D1.size d1 A2 D2.size d2)
        have SPL : Hid (splice zOp 0 (opL o.kd o.at_ o.n o.sn A1 D1.size d1 A2 D2.size d2) = opL o.kd o.at_ o.n o.sn A1 D1.size d1 A2 D2.size d2) := Lib.hid (splice_whole _ _ rfl)
        go_wp2_with (first | (refine wpList_load_midG rfl 26 (.tmp 5) rfl p 0 rfl (opL o.kd o.at_ o.n o.sn A1 D1.size d1 A2 D2.size d2) _ RA8.out Tryz.underlying26 rfl sizeOp ?_) | (refine wpList_store_segK rfl 26 (.tmp 2) (.tmp 56) rfl q 0 rfl (opL o.kd o.at_ o.n o.sn A1 D1.size d1 A2 D2.size d2) rfl zOp 26 Z8.out sizeOp (Nat.le_refl _) OO.out rfl ?_; intro w9 h9 k9 s9))
        rw [SPL.out] at h9
        have hz : w9.rangeAt q 0 (opL o.kd o.at_ o.n o.sn A1 D1.size d1 A2 D2.size d2) := fun j v hj => block_cell h9 _ v (by rw [Nat.zero_add]; simpa using hj)
        refine bodyPost_ret (results_cell_mid rfl _ _ q _ _ rfl hz Tryz.underlying26 rfl sizeOp) rfl ?_
        refine ⟨B8.out.trans (k9.below (fun i e => by have e : i = q := e; have := HQ.out; omega) B8.out.size), .inr ⟨o, D1, A1, d1, D2, A2, d2, HD.out, rfl, H.out.news, H.out.puts, hd1, hd2, ?_, ?_⟩⟩
        · exact k9.row O1.out fun k h1 h2 => row_ne_cells O1.out Z8.out (by decide) (h2 ▸ h1)
        · exact k9.row O2.out fun k h1 h2 => row_ne_cells O2.out Z8.out (by decide) (h2 ▸ h1)
end Go.Proofs.YthdllbbjajddiaaGreatDoor
