/- Layer 25 (op): the program's reader: rows. Printed by genRow.py. -/
import Derived.Test.YthdllbbjajddiaaGreatDoorPt
set_option linter.all false
namespace Go.Proofs.YthdllbbjajddiaaGreatDoor
open Go.RowKit Go.Maps Go.WideMaps
theorem rows_s {α : Type} (one : Rd → α × Rd) (n : Nat) (s : Rd) (h : s.2 = false) : rowsR one (n + 1) s = ((one s).1 :: (rowsR one n (one s).2).1, (rowsR one n (one s).2).2) := by
  rw [rowsR, if_neg (by rw [h]; decide)]
theorem rows_bad {α : Type} (one : Rd → α × Rd) (n : Nat) (s : Rd) (h : s.2 = true) : rowsR one n s = ([], s) := by
  cases n with
  | zero => rfl
  | succ n => rw [rowsR, if_pos h]
theorem num1_bd {st : Rd} (h : Byt st.1) : 0 ≤ (numR 1 st).1 ∧ (numR 1 st).1 < 256 := by
  have h1 := num_bd (takeR 1 st).1 (take_byt1 h)
  rw [take_len] at h1
  exact ⟨h1.1, by have := h1.2; show num _ < 256; omega⟩
theorem flat_pushF (D : Array ElF) (c : ElF) : flatS (fun i => cellsF D[i]!) D.size ++ cellsF c = flatS (fun i => cellsF (D.push c)[i]!) (D.push c).size := by
  rw [Array.size_push, flatS]
  have e1 : (D.push c)[D.size]! = c := by simp
  rw [e1, flatS_congr (G := fun i => cellsF (D.push c)[i]!) fun j hj => by
    rw [getElem!_pos D j hj, getElem!_pos (D.push c) j (by simp; omega), Array.getElem_push_lt hj]]
def RowFP (w : World) (r : Nat) (st : Rd) (e : Ending) (w' : World) : Prop :=
  ∃ (D : Array ElF) (v : Value), e = .returned v ∧ D.toList.map Subtype.val = (rowR freshR st).1 ∧ w'.ownsRow w.heap.size 53 36 v D.size (flatS (fun i => cellsF D[i]!) D.size) ∧ D.size ≤ 255 ∧ Rdr w' r (rowR freshR st).2.1 (rowR freshR st).2.2 ∧ Keeps (fun k => k = r) w w'
set_option maxRecDepth 100000 in
set_option maxHeartbeats 4000000 in
theorem rowF (w : World) (r : Nat) (st : Rd) (h : Rdr w r st.1 st.2) :
    Calls Tryz.prog 31 #[.pointer (some ⟨r, 0, none⟩), .func (.func 32) #[.pointer (some ⟨r, 0, none⟩)] #[]] w (RowFP w r st) := by
  obtain ⟨i0, hi, hz0, hz1, hz2⟩ := infoParts infoFz
  have HI := Lib.hid (And.intro hi (And.intro hz0 (And.intro hz1 hz2)))
  have H := Lib.hid h
  clear h hi hz0 hz1 hz2
  go_enter Tryz.func31, Tryz.ntmps31
  go_wp2_with fail
  refine (numE w r 1 st H.out (by omega) (by omega)).mono ?_
  rintro e w1 ⟨x, s1, he, rfl, hr, hk⟩
  have hx := num1_bd H.out.byt
  rw [he] at hx
  obtain ⟨N, hN⟩ : ∃ N : Nat, x = N := ⟨x.toNat, by have := hx.1; dsimp only at this; omega⟩
  subst hN
  have hN : N ≤ 255 := by have := hx.2; dsimp only at this; omega
  have HR1 := Lib.hid hr
  have HK1 := Lib.hid hk
  have HE : Hid (rowR freshR st = rowsR freshR N s1) := Lib.hid (by unfold rowR; rw [he]; rfl)
  clear hx he hr hk
  go_wp2_with fail
  go_loopw [5, 6] (fun v n wr => ∃ (i : Nat) (D : Array ElF) (s : Rd), n = .int .i64 i ∧ D.size + i ≤ 255 ∧ wr.ownsRow w.heap.size 53 36 v D.size (flatS (fun i => cellsF D[i]!) D.size) ∧ Rdr wr r s.1 s.2 ∧ Keeps (fun k => k = r) w wr ∧ (D.toList.map Subtype.val ++ (rowsR freshR i s).1, (rowsR freshR i s).2) = rowsR freshR N s1) (fun _ n _ => (intOf n).toNat)
  case atStart => exact ⟨N, #[], s1, rfl, by simpa using hN, World.ownsRow_nil _ _ _ _, HR1.out, HK1.out, by simp⟩
  case round =>
    clear HR1 HK1
    obtain ⟨i, D, s, rfl, hsz, ho, hr, hk, he⟩ := hrel
    have HO := Lib.hid ho
    have HR := Lib.hid hr
    have HK := Lib.hid hk
    have HEQ := Lib.hid he
    clear ho hr hk he
    obtain ⟨A, c, hc⟩ := HR.out.ex
    have cb : wr.cell? ⟨r, 1, none⟩ = some (.bool s.2) := block_cell hc.2.1 1 _ rfl
    clear hc
    have EXIT : Hid ((i = 0 ∨ s.2 = true) → ∀ v, wr.ownsRow w.heap.size 53 36 v D.size (flatS (fun i => cellsF D[i]!) D.size) → RowFP w r st (.returned v) wr) := Lib.hid fun h v ho => by
      have e1 : rowsR freshR i s = ([], s) := by
        rcases h with h | h
        · rw [h]; rfl
        · exact rows_bad _ _ _ h
      have e2 := HEQ.out
      rw [e1] at e2
      simp only [List.append_nil] at e2
      exact ⟨D, v, rfl, by rw [HE.out, ← e2], ho, by omega, by rw [HE.out, ← e2]; exact HR.out, HK.out⟩
    by_cases h0 : i = 0
    · subst h0
      have t1 : decide ((0 : Int) < ((0 : Nat) : Int)) = false := by decide
      go_wp2_with fail
      go_ret
      exact EXIT.out (.inl (by trivial)) _ HO.out
    · have t1 : decide ((0 : Int) < (i : Int)) = true := by simp; omega
      by_cases hb : s.2 = true
      · rw [hb] at cb
        have HBT := Lib.hid hb
        clear hb
        go_wp2_with fail
        go_ret
        exact EXIT.out (.inr HBT.out) _ HO.out
      · have hb2 : s.2 = false := by simpa using hb
        rw [hb2] at cb
        obtain ⟨j, hj⟩ : ∃ j, i = j + 1 := ⟨i - 1, by omega⟩
        subst hj
        have e2 := HEQ.out
        rw [rows_s _ _ _ hb2] at e2
        have HB2 := Lib.hid hb2
        have HEQ2 := Lib.hid e2
        have hcast : (((j + 1 : Nat) : Nat) : Int) = (j : Int) + 1 := by omega
        clear hb hb2 e2 h0
        go_wp2_with fail
        refine (fresh46 wr r s HR.out).mono ?_
        rintro e w2 ⟨rfl, hr, hk⟩
        have hOK := fresh_ok (st := s) HR.out.byt
        obtain ⟨el, hel⟩ : ∃ el : ElF, el.1 = (freshR s).1 := ⟨⟨_, hOK⟩, rfl⟩
        obtain ⟨cs, hcs⟩ : ∃ cs, cs = cellsF el := ⟨_, rfl⟩
        have e5 : frC (freshR s).1 = cs := by rw [hcs, ← hel]; rfl
        rw [e5]
        have HL : Hid (cs.length = 36) := Lib.hid (by rw [hcs]; exact lenF el)
        have HON : Hid (∀ u ∈ cs, u.oneCell' = true) := Lib.hid (by rw [hcs]; exact oneF el)
        have HPU : Hid (flatS (fun i => cellsF D[i]!) D.size ++ cs = flatS (fun i => cellsF (D.push el)[i]!) (D.push el).size) := Lib.hid (by rw [hcs]; exact flat_pushF D el)
        have HEL := Lib.hid hel
        have HR2 := Lib.hid hr
        have HK2 := Lib.hid (HK.out.trans hk fun _ _ h => h)
        have HO2 := Lib.hid (hk.row HO.out fun k h1 e => by have := (HO.out.lt k h1).1; have := H.out.lt; omega)
        clear hr hk hOK hel hcs e5 cb
        obtain ⟨w3, hw3⟩ : ∃ w3, w3 = w2.alloc (.cells cs.toArray 53) := ⟨_, rfl⟩
        have HO3 : Hid (w3.ownsRow w.heap.size 53 36 _ D.size (flatS (fun i => cellsF D[i]!) D.size)) := Lib.hid (by rw [hw3]; exact HO2.out.alloc _)
        have HR3 : Hid (Rdr w3 r (freshR s).2.1 (freshR s).2.2) := Lib.hid (by rw [hw3]; exact HR2.out.keeps (Keeps.alloc (fun _ => False) _ _) fun _ _ h => h)
        have HK3 : Hid (Keeps (fun k => k = r) w w3) := Lib.hid (by rw [hw3]; exact HK2.out.trans (Keeps.alloc (fun k => k = r) _ _) fun _ _ h => h)
        have CA : Hid (∀ ad, (some ⟨w2.heap.size, 0, none⟩ : Option Addr) = some ad → ∀ j u, cs[j]? = some u → w3.cell? (ad.add j) = some u) := Lib.hid fun ad e j u hu => by
          cases e
          rw [Go.WideShapes.add_plain, Nat.zero_add, hw3]
          exact block_cell (heap_new w2 _) j u (by simpa using hu)
        have hw3' := hw3.symm
        have NN : Hid ((some ⟨w2.heap.size, 0, none⟩ : Option Addr) = none → (1 : Nat) = 0 ∧ (1 : Nat) = 0) := Lib.hid (fun h => by cases h)
        have L1 : Hid (D.size + 1 ≤ maxLen) := Lib.hid (by unfold maxLen; omega)
        have L2 : Hid ((D.size + 1) * 64 ≤ 140737488355328) := Lib.hid (by omega)
        have L3 : Hid (w.heap.size ≤ w3.heap.size) := Lib.hid HK3.out.size
        have L4 : Hid (cs.length = 1 * 36) := Lib.hid (by rw [HL.out])
        have L5 : Hid (0 < cs.length) := Lib.hid (by rw [HL.out]; decide)
        have L6 : Hid (cs.length ≤ 2 ^ 24) := Lib.hid (by rw [HL.out]; decide)
        have L7 : Hid (i0.size = cs.length) := Lib.hid (by rw [HL.out]; exact HI.out.2.2.1)
        clear hw3
        go_wp2_with (first | (refine wpList_slice1 rfl 23 53 (.tmp 22) rfl cs rfl i0 (.agg zF.toArray) Tryz.underlying23 HI.out.1 HI.out.2.1 L7.out L5.out L6.out ?_; rw [hw3']) | (at_builtin; refine wpList_append_any rfl (.tmp 20) (.tmp 23) 23 rfl w.heap.size 53 i0 (.agg zF.toArray) 36 64 Tryz.underlying23 HI.out.1 HI.out.2.1 HI.out.2.2.1 HI.out.2.2.2 rfl (by decide) _ D.size _ rfl HO3.out (some ⟨w2.heap.size, 0, none⟩) 1 1 cs rfl NN.out L4.out CA.out HON.out L1.out L2.out L3.out ?_; intro v' w4 hown hgr))
        rw [HPU.out] at hown
        have hk4 : Keeps (fun k => _ = some k) w3 w4 := Keeps.grown hgr fun k e => e
        go_roundw
        case rel =>
          refine ⟨j, D.push el, (freshR s).2, by go_num, by rw [Array.size_push]; omega, ?_, ?_, ?_, ?_⟩
          · rw [Array.size_push] at hown ⊢; exact hown
          · exact HR3.out.keeps hk4 fun k h1 h2 => by have := (HO3.out.lt k h2).1; have := H.out.lt; omega
          · exact HK3.out.trans hk4 fun k h1 h2 => by have := (HO3.out.lt k h2).1; omega
          · rw [← HEQ2.out, Array.toList_push, List.map_append, List.append_assoc]
            simp only [List.map_cons, List.map_nil, List.cons_append, List.nil_append, HEL.out]
        case measure => simp [intOf]
theorem flat_pushP (D : Array ElP) (c : ElP) : flatS (fun i => cellsP D[i]!) D.size ++ cellsP c = flatS (fun i => cellsP (D.push c)[i]!) (D.push c).size := by
  rw [Array.size_push, flatS]
  have e1 : (D.push c)[D.size]! = c := by simp
  rw [e1, flatS_congr (G := fun i => cellsP (D.push c)[i]!) fun j hj => by
    rw [getElem!_pos D j hj, getElem!_pos (D.push c) j (by simp; omega), Array.getElem_push_lt hj]]
def RowPP (w : World) (r : Nat) (st : Rd) (e : Ending) (w' : World) : Prop :=
  ∃ (D : Array ElP) (v : Value), e = .returned v ∧ D.toList.map Subtype.val = (rowR putR st).1 ∧ w'.ownsRow w.heap.size 48 35 v D.size (flatS (fun i => cellsP D[i]!) D.size) ∧ D.size ≤ 255 ∧ Rdr w' r (rowR putR st).2.1 (rowR putR st).2.2 ∧ Keeps (fun k => k = r) w w'
set_option maxRecDepth 100000 in
set_option maxHeartbeats 4000000 in
theorem rowP (w : World) (r : Nat) (st : Rd) (h : Rdr w r st.1 st.2) :
    Calls Tryz.prog 33 #[.pointer (some ⟨r, 0, none⟩), .func (.func 34) #[.pointer (some ⟨r, 0, none⟩)] #[]] w (RowPP w r st) := by
  obtain ⟨i0, hi, hz0, hz1, hz2⟩ := infoParts infoPz
  have HI := Lib.hid (And.intro hi (And.intro hz0 (And.intro hz1 hz2)))
  have H := Lib.hid h
  clear h hi hz0 hz1 hz2
  go_enter Tryz.func33, Tryz.ntmps33
  go_wp2_with fail
  refine (numE w r 1 st H.out (by omega) (by omega)).mono ?_
  rintro e w1 ⟨x, s1, he, rfl, hr, hk⟩
  have hx := num1_bd H.out.byt
  rw [he] at hx
  obtain ⟨N, hN⟩ : ∃ N : Nat, x = N := ⟨x.toNat, by have := hx.1; dsimp only at this; omega⟩
  subst hN
  have hN : N ≤ 255 := by have := hx.2; dsimp only at this; omega
  have HR1 := Lib.hid hr
  have HK1 := Lib.hid hk
  have HE : Hid (rowR putR st = rowsR putR N s1) := Lib.hid (by unfold rowR; rw [he]; rfl)
  clear hx he hr hk
  go_wp2_with fail
  go_loopw [5, 6] (fun v n wr => ∃ (i : Nat) (D : Array ElP) (s : Rd), n = .int .i64 i ∧ D.size + i ≤ 255 ∧ wr.ownsRow w.heap.size 48 35 v D.size (flatS (fun i => cellsP D[i]!) D.size) ∧ Rdr wr r s.1 s.2 ∧ Keeps (fun k => k = r) w wr ∧ (D.toList.map Subtype.val ++ (rowsR putR i s).1, (rowsR putR i s).2) = rowsR putR N s1) (fun _ n _ => (intOf n).toNat)
  case atStart => exact ⟨N, #[], s1, rfl, by simpa using hN, World.ownsRow_nil _ _ _ _, HR1.out, HK1.out, by simp⟩
  case round =>
    clear HR1 HK1
    obtain ⟨i, D, s, rfl, hsz, ho, hr, hk, he⟩ := hrel
    have HO := Lib.hid ho
    have HR := Lib.hid hr
    have HK := Lib.hid hk
    have HEQ := Lib.hid he
    clear ho hr hk he
    obtain ⟨A, c, hc⟩ := HR.out.ex
    have cb : wr.cell? ⟨r, 1, none⟩ = some (.bool s.2) := block_cell hc.2.1 1 _ rfl
    clear hc
    have EXIT : Hid ((i = 0 ∨ s.2 = true) → ∀ v, wr.ownsRow w.heap.size 48 35 v D.size (flatS (fun i => cellsP D[i]!) D.size) → RowPP w r st (.returned v) wr) := Lib.hid fun h v ho => by
      have e1 : rowsR putR i s = ([], s) := by
        rcases h with h | h
        · rw [h]; rfl
        · exact rows_bad _ _ _ h
      have e2 := HEQ.out
      rw [e1] at e2
      simp only [List.append_nil] at e2
      exact ⟨D, v, rfl, by rw [HE.out, ← e2], ho, by omega, by rw [HE.out, ← e2]; exact HR.out, HK.out⟩
    by_cases h0 : i = 0
    · subst h0
      have t1 : decide ((0 : Int) < ((0 : Nat) : Int)) = false := by decide
      go_wp2_with fail
      go_ret
      exact EXIT.out (.inl (by trivial)) _ HO.out
    · have t1 : decide ((0 : Int) < (i : Int)) = true := by simp; omega
      by_cases hb : s.2 = true
      · rw [hb] at cb
        have HBT := Lib.hid hb
        clear hb
        go_wp2_with fail
        go_ret
        exact EXIT.out (.inr HBT.out) _ HO.out
      · have hb2 : s.2 = false := by simpa using hb
        rw [hb2] at cb
        obtain ⟨j, hj⟩ : ∃ j, i = j + 1 := ⟨i - 1, by omega⟩
        subst hj
        have e2 := HEQ.out
        rw [rows_s _ _ _ hb2] at e2
        have HB2 := Lib.hid hb2
        have HEQ2 := Lib.hid e2
        have hcast : (((j + 1 : Nat) : Nat) : Int) = (j : Int) + 1 := by omega
        clear hb hb2 e2 h0
        go_wp2_with fail
        refine (put48 wr r s HR.out).mono ?_
        rintro e w2 ⟨rfl, hr, hk⟩
        have hOK := put_ok (st := s) HR.out.byt
        obtain ⟨el, hel⟩ : ∃ el : ElP, el.1 = (putR s).1 := ⟨⟨_, hOK⟩, rfl⟩
        obtain ⟨cs, hcs⟩ : ∃ cs, cs = cellsP el := ⟨_, rfl⟩
        have e5 : puC (putR s).1 = cs := by rw [hcs, ← hel]; rfl
        rw [e5]
        have HL : Hid (cs.length = 35) := Lib.hid (by rw [hcs]; exact lenP el)
        have HON : Hid (∀ u ∈ cs, u.oneCell' = true) := Lib.hid (by rw [hcs]; exact oneP el)
        have HPU : Hid (flatS (fun i => cellsP D[i]!) D.size ++ cs = flatS (fun i => cellsP (D.push el)[i]!) (D.push el).size) := Lib.hid (by rw [hcs]; exact flat_pushP D el)
        have HEL := Lib.hid hel
        have HR2 := Lib.hid hr
        have HK2 := Lib.hid (HK.out.trans hk fun _ _ h => h)
        have HO2 := Lib.hid (hk.row HO.out fun k h1 e => by have := (HO.out.lt k h1).1; have := H.out.lt; omega)
        clear hr hk hOK hel hcs e5 cb
        obtain ⟨w3, hw3⟩ : ∃ w3, w3 = w2.alloc (.cells cs.toArray 48) := ⟨_, rfl⟩
        have HO3 : Hid (w3.ownsRow w.heap.size 48 35 _ D.size (flatS (fun i => cellsP D[i]!) D.size)) := Lib.hid (by rw [hw3]; exact HO2.out.alloc _)
        have HR3 : Hid (Rdr w3 r (putR s).2.1 (putR s).2.2) := Lib.hid (by rw [hw3]; exact HR2.out.keeps (Keeps.alloc (fun _ => False) _ _) fun _ _ h => h)
        have HK3 : Hid (Keeps (fun k => k = r) w w3) := Lib.hid (by rw [hw3]; exact HK2.out.trans (Keeps.alloc (fun k => k = r) _ _) fun _ _ h => h)
        have CA : Hid (∀ ad, (some ⟨w2.heap.size, 0, none⟩ : Option Addr) = some ad → ∀ j u, cs[j]? = some u → w3.cell? (ad.add j) = some u) := Lib.hid fun ad e j u hu => by
          cases e
          rw [Go.WideShapes.add_plain, Nat.zero_add, hw3]
          exact block_cell (heap_new w2 _) j u (by simpa using hu)
        have hw3' := hw3.symm
        have NN : Hid ((some ⟨w2.heap.size, 0, none⟩ : Option Addr) = none → (1 : Nat) = 0 ∧ (1 : Nat) = 0) := Lib.hid (fun h => by cases h)
        have L1 : Hid (D.size + 1 ≤ maxLen) := Lib.hid (by unfold maxLen; omega)
        have L2 : Hid ((D.size + 1) * 56 ≤ 140737488355328) := Lib.hid (by omega)
        have L3 : Hid (w.heap.size ≤ w3.heap.size) := Lib.hid HK3.out.size
        have L4 : Hid (cs.length = 1 * 35) := Lib.hid (by rw [HL.out])
        have L5 : Hid (0 < cs.length) := Lib.hid (by rw [HL.out]; decide)
        have L6 : Hid (cs.length ≤ 2 ^ 24) := Lib.hid (by rw [HL.out]; decide)
        have L7 : Hid (i0.size = cs.length) := Lib.hid (by rw [HL.out]; exact HI.out.2.2.1)
        clear hw3
        go_wp2_with (first | (refine wpList_slice1 rfl 24 48 (.tmp 22) rfl cs rfl i0 (.agg zP.toArray) Tryz.underlying24 HI.out.1 HI.out.2.1 L7.out L5.out L6.out ?_; rw [hw3']) | (at_builtin; refine wpList_append_any rfl (.tmp 20) (.tmp 23) 24 rfl w.heap.size 48 i0 (.agg zP.toArray) 35 56 Tryz.underlying24 HI.out.1 HI.out.2.1 HI.out.2.2.1 HI.out.2.2.2 rfl (by decide) _ D.size _ rfl HO3.out (some ⟨w2.heap.size, 0, none⟩) 1 1 cs rfl NN.out L4.out CA.out HON.out L1.out L2.out L3.out ?_; intro v' w4 hown hgr))
        rw [HPU.out] at hown
        have hk4 : Keeps (fun k => _ = some k) w3 w4 := Keeps.grown hgr fun k e => e
        go_roundw
        case rel =>
          refine ⟨j, D.push el, (putR s).2, by go_num, by rw [Array.size_push]; omega, ?_, ?_, ?_, ?_⟩
          · rw [Array.size_push] at hown ⊢; exact hown
          · exact HR3.out.keeps hk4 fun k h1 h2 => by have := (HO3.out.lt k h2).1; have := H.out.lt; omega
          · exact HK3.out.trans hk4 fun k h1 h2 => by have := (HO3.out.lt k h2).1; omega
          · rw [← HEQ2.out, Array.toList_push, List.map_append, List.append_assoc]
            simp only [List.map_cons, List.map_nil, List.cons_append, List.nil_append, HEL.out]
        case measure => simp [intOf]
end Go.Proofs.YthdllbbjajddiaaGreatDoor
