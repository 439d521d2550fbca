/- What a space does, said in one contract for each function; the chapter's example. -/
import Derived.Test.YtgoblbmekhcekaaH
namespace Go.Proofs.Ytgoblbmekhcekaa
open Go.RowKit
/-- A space that lies in blocks of X. -/
def SpX (w : World) (X : Nat → Prop) (b : Nat) (g : Geo) (n : Nw) (was : List Nw) : Prop := ∃ row, Sp w b g n was row ∧ X b ∧ ∀ k, row.ownBlock = some k → X k
theorem SpX.mono {w : World} {X Y : Nat → Prop} {b : Nat} {g : Geo} {n : Nw} {was : List Nw} (h : SpX w X b g n was) (hX : ∀ k, X k → Y k) : SpX w Y b g n was := by
  obtain ⟨row, h1, h2, h3⟩ := h
  exact ⟨row, h1, hX _ h2, fun k hk => hX _ (h3 k hk)⟩
theorem SpX.keeps {w w' : World} {X S : Nat → Prop} {b : Nat} {g : Geo} {n : Nw} {was : List Nw} (h : SpX w X b g n was) (hk : Keeps S w w') (hX : ∀ k, X k → ¬ S k) : SpX w' X b g n was := by
  obtain ⟨row, h1, h2, h3⟩ := h
  exact ⟨row, h1.keeps hk (hX _ h2) (fun k hk => hX _ (h3 k hk)), h2, h3⟩
theorem SpX.go {w w' : World} {X : Nat → Prop} {b : Nat} {g : Geo} {n : Nw} {was : List Nw} (h : SpX w X b g n was) (hb : Below w.heap.size w w') : SpX w' X b g n was :=
  h.keeps (S := fun _ => False) (Keeps.fresh hb) (fun _ _ h => h)
theorem SpX.lt {w : World} {X : Nat → Prop} {b : Nat} {g : Geo} {n : Nw} {was : List Nw} (h : SpX w X b g n was) : SpX w (fun k => X k ∧ k < w.heap.size) b g n was := by
  obtain ⟨row, h1, h2, h3⟩ := h
  exact ⟨row, h1, ⟨h2, heap_lt h1.blk⟩, fun k hk => ⟨h3 k hk, (h1.own.lt k hk).2⟩⟩
/-- What becomes of a space that is turned. -/
def Goes (w : World) (X : Nat → Prop) (b : Nat) (g : Geo) (n : Nw) (was : List Nw) (v : Value) (e : Ending) (w' : World) : Prop :=
  e = .returned v ∧ SpX w' (fun k => X k ∨ w.heap.size ≤ k) b g n was ∧ Keeps X w w'
theorem SpPost.goes {w : World} {X : Nat → Prop} {b : Nat} {g : Geo} {n : Nw} {was : List Nw} {row v : Value} {e : Ending} {w' : World} (h : SpPost w b g n was row v e w') (hb : X b) (hr : ∀ k, row.ownBlock = some k → X k) : Goes w X b g n was v e w' := by
  obtain ⟨he, row', h1, h2, h3⟩ := h
  refine ⟨he, ⟨row', h1, .inl hb, fun k hk => (h2 k hk).imp (hr k) id⟩, h3.mono fun k _ hk => ?_⟩
  rcases hk with rfl | hk
  · exact hb
  · exact hr k hk
theorem Goes.same {w : World} {X : Nat → Prop} {b : Nat} {g : Geo} {n : Nw} {was : List Nw} {v : Value} {e : Ending} {w' : World} (h : SpX w X b g n was) (he : e = .returned v ∧ w = w') : Goes w X b g n was v e w' := by
  obtain ⟨rfl, rfl⟩ := he
  exact ⟨rfl, h.mono fun _ h => .inl h, Keeps.refl _ _⟩
theorem Goes.below {w : World} {X : Nat → Prop} {b : Nat} {g : Geo} {n : Nw} {was : List Nw} {v : Value} {e : Ending} {w' : World} (h : SpX w X b g n was) (he : e = .returned v ∧ Below w.heap.size w w') : Goes w X b g n was v e w' :=
  ⟨he.1, (h.go he.2).mono fun _ h => .inl h, Keeps.fresh he.2⟩
/-- What Take does. -/
structure TakeR where
  n : Nw
  was : List Nw
  at_ : Int
  err : Int
def takeR (g : Geo) (n : Nw) (was : List Nw) (s : Int) (deep : Bool) : TakeR :=
  if s < 1 ∨ g.G < s then ⟨n, was, 0, 2⟩
  else if needB g n s then
    if noB n deep then ⟨n, was, 0, 11⟩ else ⟨opened n s, was ++ [n], segV g (fst n.fr : Nat), 0⟩
  else ⟨more n s, was ++ [n], segV g n.op + n.fl, 0⟩
theorem takeX (s : Int) (deep : Bool) (w : World) (X : Nat → Prop) (b : Nat) (g : Geo) (n : Nw) (was : List Nw) (h : SpX w X b g n was) (hwas : was.length ≤ 100000) :
    Calls Try.prog 11 #[.pointer (some ⟨b, 0, none⟩), .int .i64 s, .bool deep] w (Goes w X b g (takeR g n was s deep).n (takeR g n was s deep).was (.tuple #[.int .i64 (takeR g n was s deep).at_, .int .i64 (takeR g n was s deep).err])) := by
  have hx := h
  obtain ⟨row, h1, h2, h3⟩ := h
  unfold takeR
  by_cases c1 : s < 1 ∨ g.G < s
  · simp only [if_pos c1]
    exact (take11a s deep w b g n was row h1 c1).mono fun _ _ h => Goes.same hx h
  · simp only [if_neg c1]
    have hs : 1 ≤ s ∧ s ≤ g.G := by omega
    cases c2 : needB g n s
    · simp only [Bool.false_eq_true, if_false]
      exact (take11m s deep w b g n was row h1 hwas hs c2).mono fun _ _ h => h.goes h2 h3
    · simp only [if_true]
      cases c3 : noB n deep
      · simp only [Bool.false_eq_true, if_false]
        exact (take11k s deep w b g n was row h1 hwas hs c2 c3).mono fun _ _ h => h.goes h2 h3
      · simp only [if_true]
        exact (take11n s deep w b g n was row h1 hs c2 c3).mono fun _ _ h => Goes.below hx h
/-- What Back does. -/
structure BackR where
  n : Nw
  was : List Nw
  err : Int
def backR (n : Nw) (was : List Nw) (mark : Int) : BackR :=
  if mark < 0 ∨ (was.length : Int) < mark then ⟨n, was, 2⟩
  else match was[mark.toNat]? with
    | some m => ⟨m, was.take mark.toNat, 0⟩
    | none => ⟨n, was, 0⟩
theorem backX (mark : Int) (w : World) (X : Nat → Prop) (b : Nat) (g : Geo) (n : Nw) (was : List Nw) (h : SpX w X b g n was) :
    Calls Try.prog 15 #[.pointer (some ⟨b, 0, none⟩), .int .i64 mark] w (Goes w X b g (backR n was mark).n (backR n was mark).was (.int .i64 (backR n was mark).err)) := by
  have hx := h
  obtain ⟨row, h1, h2, h3⟩ := h
  unfold backR
  by_cases c1 : mark < 0 ∨ (was.length : Int) < mark
  · simp only [if_pos c1]
    exact (back15a mark w b g n was row h1 c1).mono fun _ _ h => Goes.same hx h
  · simp only [if_neg c1]
    obtain ⟨k, rfl⟩ : ∃ k : Nat, mark = k := ⟨mark.toNat, by omega⟩
    simp only [Int.toNat_natCast]
    by_cases c2 : k < was.length
    · simp only [List.getElem?_eq_getElem c2]
      exact (back15l k w b g n was row h1 c2).mono fun _ _ h => h.goes h2 h3
    · obtain rfl : k = was.length := by omega
      simp only [List.getElem?_eq_none (Nat.le_refl _)]
      exact (back15s w b g n was row h1).mono fun _ _ h => Goes.same hx h
/-- What Settle does. -/
def settleR (g : Geo) (n : Nw) (was : List Nw) (f : Nat → Int) (m : Nat) : BackR := if countsB g f m then ⟨n.settled f, [], 0⟩ else ⟨n, was, 2⟩
theorem settleX (f : Nat → Int) (A : Option Addr) (m c : Nat) (w : World) (X : Nat → Prop) (b : Nat) (g : Geo) (n : Nw) (was : List Nw) (h : SpX w X b g n was) (hm : m ≤ 140737488351232) (ha : Arr w w.heap.size A m fun j => .int .i64 (f j)) (hne : ∀ b2 o, A = some ⟨b2, o, none⟩ → ¬ X b2) :
    Calls Try.prog 22 #[.pointer (some ⟨b, 0, none⟩), .slice A m c] w (Goes w X b g (settleR g n was f m).n (settleR g n was f m).was (.int .i64 (settleR g n was f m).err)) := by
  have hx := h
  obtain ⟨row, h1, h2, h3⟩ := h
  unfold settleR
  cases c1 : countsB g f m
  · simp only [Bool.false_eq_true, if_false]
    exact (settle22f f A m c w b g n was row h1 hm ha c1).mono fun _ _ h => Goes.below hx h
  · simp only [if_true]
    exact (settle22t f A m c w b g n was row h1 hm ha (fun b2 o e h => hne b2 o e (h ▸ h2)) c1).mono fun _ _ h => h.goes h2 h3
theorem freeX (w : World) (X : Nat → Prop) (b : Nat) (g : Geo) (n : Nw) (was : List Nw) (h : SpX w X b g n was) : Calls Try.prog 10 #[.pointer (some ⟨b, 0, none⟩)] w fun e w' => e = .returned (.int .i64 (n.fr.count true : Nat)) ∧ Below w.heap.size w w' := by
  obtain ⟨row, h1, -⟩ := h
  exact free10 w b g n was row h1
theorem openX (w : World) (X : Nat → Prop) (b : Nat) (g : Geo) (n : Nw) (was : List Nw) (h : SpX w X b g n was) : Calls Try.prog 13 #[.pointer (some ⟨b, 0, none⟩)] w fun e w' => e = .returned (.int .i64 n.op) ∧ w = w' := by
  obtain ⟨row, h1, -⟩ := h
  exact open13 w b g n was row h1
theorem markX (w : World) (X : Nat → Prop) (b : Nat) (g : Geo) (n : Nw) (was : List Nw) (h : SpX w X b g n was) : Calls Try.prog 14 #[.pointer (some ⟨b, 0, none⟩)] w fun e w' => e = .returned (.int .i64 (was.length : Nat)) ∧ w = w' := by
  obtain ⟨row, h1, -⟩ := h
  exact mark14 w b g n was row h1
/-- A new space, in blocks of its own. -/
def NewX (w : World) (g : Geo) (n : Nw) (e : Ending) (w' : World) : Prop := ∃ b, e = .returned (.pointer (some ⟨b, 0, none⟩)) ∧ SpX w' (fun k => w.heap.size ≤ k) b g n [] ∧ Below w.heap.size w w'
theorem newX (g : Geo) (f : Nat → Int) (A : Option Addr) (n c : Nat) (w : World) (ha : Arr w w.heap.size A n fun j => .int .i64 (f j)) (h : newB g f n = true) : Calls Try.prog 9 #[gv g, .slice A n c] w (NewX w g ⟨freesL f (-1) n, -1, 0⟩) :=
  (new9t g f A n c w ha h).mono fun _ _ ⟨b, h1, h2, h3, h4⟩ => ⟨b, h1, ⟨_, h3, h2, by simp [Value.ownBlock]⟩, h4⟩
/-- All that is turned was made since W. -/
theorem Goes.since {W w : World} {b : Nat} {g : Geo} {n : Nw} {was : List Nw} {v : Value} {e : Ending} {w' : World} (h : Goes w (fun k => W.heap.size ≤ k) b g n was v e w') (hb : Below W.heap.size W w) : e = .returned v ∧ SpX w' (fun k => W.heap.size ≤ k) b g n was ∧ Below W.heap.size W w' :=
  ⟨h.1, h.2.1.mono fun _ hk => hk.elim id fun h => Nat.le_trans hb.size h, hb.trans (h.2.2.below (fun _ h => h) hb.size)⟩
def exG : Geo := ⟨64, 3, 32, 1, 8⟩
theorem ex_right : rightB exG = true := by decide
set_option maxHeartbeats 400000 in
theorem small26 (w : World) : Calls Try.prog 26 #[] w fun e w' => e = .returned (gv exG) ∧ Below w.heap.size w w' := by
  go_enter Try.func26, Try.ntmps26
  go_wp2
  exact bodyPost_ret (v := gv exG) (by simp [results, Try.f26, go_sem, exG]) rfl ⟨rfl, (Below.refl _ _).alloc (Nat.le_refl _) _⟩
def ex0 : Nw := ⟨[true, true, true], -1, 0⟩
def ex1 : Nw := ⟨[false, true, true], 0, 20⟩
def ex2 : Nw := ⟨[false, false, true], 1, 20⟩
def ex3 : Nw := ⟨[false, false, true], 1, 32⟩
def ex4 : Nw := ⟨[false, false, false], 2, 20⟩
theorem ex_r1 : takeR exG ex0 [] 20 false = ⟨ex1, [ex0], 202, 0⟩ := by kernel_rfl
theorem ex_r2 : takeR exG ex1 [ex0] 20 false = ⟨ex2, [ex0, ex1], 234, 0⟩ := by kernel_rfl
theorem ex_r3 : takeR exG ex2 [ex0, ex1] 20 false = ⟨ex2, [ex0, ex1], 0, 11⟩ := by kernel_rfl
theorem ex_r4 : takeR exG ex2 [ex0, ex1] 12 false = ⟨ex3, [ex0, ex1, ex2], 254, 0⟩ := by kernel_rfl
theorem ex_r5 : takeR exG ex3 [ex0, ex1, ex2] 20 true = ⟨ex4, [ex0, ex1, ex2, ex3], 266, 0⟩ := by kernel_rfl
theorem ex_new : newB exG (fun _ => 0) 3 = true := by decide
theorem ex_frees : freesL (fun _ => 0) (-1) 3 = [true, true, true] := by decide
theorem takeE (g : Geo) (n n' : Nw) (was was' : List Nw) (s : Int) (deep : Bool) (a e : Int) (hr : takeR g n was s deep = ⟨n', was', a, e⟩) (W w : World) (b : Nat) (h : SpX w (fun k => W.heap.size ≤ k) b g n was ∧ Below W.heap.size W w) (hw : was.length ≤ 100000) :
    Calls Try.prog 11 #[.pointer (some ⟨b, 0, none⟩), .int .i64 s, .bool deep] w fun q w' => q = .returned (.tuple #[.int .i64 a, .int .i64 e]) ∧ SpX w' (fun k => W.heap.size ≤ k) b g n' was' ∧ Below W.heap.size W w' := by
  have := takeX s deep w _ b g n was h.1 hw
  rw [hr] at this
  exact this.mono fun _ _ h' => h'.since h.2
theorem arr3 {w : World} {h : Nat} {z : TypeId} (hb : w.heap[h]? = some (.cells #[.int .i64 0, .int .i64 0, .int .i64 0] z)) : Arr w w.heap.size (some ⟨h, 0, none⟩) 3 fun j => .int .i64 ((fun _ => 0 : Nat → Int) j) :=
  Arr.ofBlock 3 _ hb fun j hj => match j, hj with | 0, _ => rfl | 1, _ => rfl | 2, _ => rfl
set_option maxRecDepth 100000 in
set_option maxHeartbeats 2000000 in
theorem awake7 (w : World) : Calls Try.prog 7 #[] w fun e w' => e = .returned (.bool true) ∧ Below w.heap.size w w' := by
  go_enter Try.func7, Try.ntmps7
  go_wp2_with fail
  refine (small26 w).mono ?_
  rintro e w1 ⟨rfl, hb1⟩
  have B1 := Lib.hid hb1
  clear hb1
  go_wp2_with fail
  refine (newX exG (fun _ => 0) _ 3 3 _ (arr3 (heap_new w1 _)) ex_new).mono ?_
  rintro e w2 ⟨b, rfl, hs, hb2⟩
  rw [ex_frees] at hs
  have S2 : Hid (SpX w2 (fun k => w.heap.size ≤ k) b exG ex0 [] ∧ Below w.heap.size w w2) := Lib.hid ⟨hs.mono fun _ hk => Nat.le_trans (Nat.le_trans B1.out.size (by simp)) hk, (B1.out.alloc B1.out.size _).trans (hb2.mono (B1.out.alloc B1.out.size _).size)⟩
  clear hs hb2
  go_wp2_with fail
  refine (takeE exG _ _ _ _ _ _ _ _ ex_r1 w w2 b S2.out (by simp)).mono ?_
  rintro e w3 ⟨rfl, h3⟩
  have S3 := Lib.hid h3
  clear h3
  go_wp2_with fail
  refine (takeE exG _ _ _ _ _ _ _ _ ex_r2 w w3 b S3.out (by simp)).mono ?_
  rintro e w4 ⟨rfl, h4⟩
  have S4 := Lib.hid h4
  clear h4
  go_wp2_with fail
  refine (takeE exG _ _ _ _ _ _ _ _ ex_r3 w w4 b S4.out (by simp)).mono ?_
  rintro e w5 ⟨rfl, h5⟩
  have S5 := Lib.hid h5
  clear h5
  go_wp2_with fail
  refine (takeE exG _ _ _ _ _ _ _ _ ex_r4 w w5 b S5.out (by simp)).mono ?_
  rintro e w6 ⟨rfl, h6⟩
  have S6 := Lib.hid h6
  clear h6
  go_wp2_with fail
  refine (takeE exG _ _ _ _ _ _ _ _ ex_r5 w w6 b S6.out (by simp)).mono ?_
  rintro e w7 ⟨rfl, h7⟩
  have S7 := Lib.hid h7
  clear h7
  go_wp2_with fail
  refine (freeX w7 _ b exG ex4 _ S7.out.1).mono ?_
  rintro e w8 ⟨rfl, hb8⟩
  have S8 := Lib.hid (And.intro (S7.out.1.go hb8) (S7.out.2.trans (hb8.mono S7.out.2.size)))
  clear hb8
  have e0 : ex4.fr.count true = 0 := by decide
  rw [e0]
  clear e0
  go_wp2_with fail
  refine (markX w8 _ b exG ex4 _ S8.out.1).mono ?_
  rintro e _ ⟨rfl, rfl⟩
  go_wp2_with fail
  go_ret
  exact ⟨rfl, S8.out.2⟩
end Go.Proofs.Ytgoblbmekhcekaa
