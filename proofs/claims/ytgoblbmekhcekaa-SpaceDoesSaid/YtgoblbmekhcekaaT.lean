/- Two spaces side by side (layer 19): the program's and the document's; what one does leaves the other. -/
import Derived.Test.YtgoblbmekhcekaaL
namespace Go.Proofs.Ytgoblbmekhcekaa
open Go.RowKit
/-- The program's space at b, the document's at rb, and blocks Z that neither has. -/
def Two (W w : World) (b rb : Nat) (g : Geo) (s r : Nw × List Nw) (Z : Nat → Prop) : Prop :=
  ∃ X Y : Nat → Prop, SpX w X b g s.1 s.2 ∧ RfX w Y rb g r.1 r.2 ∧ (∀ k, X k → ¬ Y k) ∧ (∀ k, X k → ¬ Z k) ∧ (∀ k, Y k → ¬ Z k) ∧ (∀ k, X k → W.heap.size ≤ k) ∧ (∀ k, Y k → W.heap.size ≤ k) ∧ (∀ k, Z k → k < w.heap.size) ∧ Below W.heap.size W w
/-- The blocks of Z lie as they lay. -/
def KeepZ (Z : Nat → Prop) (w w' : World) : Prop := ∀ k, Z k → w'.heap[k]? = w.heap[k]?
theorem Two.below {W w : World} {b rb : Nat} {g : Geo} {s r : Nw × List Nw} {Z : Nat → Prop} (h : Two W w b rb g s r Z) : Below W.heap.size W w := by
  obtain ⟨X, Y, _, _, _, _, _, _, _, _, h⟩ := h
  exact h
theorem Two.go {W w w' : World} {b rb : Nat} {g : Geo} {s r : Nw × List Nw} {Z : Nat → Prop} (h : Two W w b rb g s r Z) (hb : Below w.heap.size w w') : Two W w' b rb g s r Z := by
  obtain ⟨X, Y, h1, h2, h3, h4, h5, h6, h7, h8, h9⟩ := h
  exact ⟨X, Y, h1.go hb, h2.go hb, h3, h4, h5, h6, h7, fun k hk => Nat.lt_of_lt_of_le (h8 k hk) hb.size, h9.trans (hb.mono h9.size)⟩
theorem Two.keepZ {W w w' : World} {b rb : Nat} {g : Geo} {s r : Nw × List Nw} {Z : Nat → Prop} (h : Two W w b rb g s r Z) (hb : Below w.heap.size w w') : KeepZ Z w w' := by
  obtain ⟨X, Y, h1, h2, h3, h4, h5, h6, h7, h8, h9⟩ := h
  exact fun k hk => hb.block k (h8 k hk)
theorem Two.drew {W w : World} {b rb : Nat} {g : Geo} {s r : Nw × List Nw} {Z : Nat → Prop} (h : Two W w b rb g s r Z) : Two W w.drew b rb g s r Z := h.go (below_drewN (Below.refl _ w) 1)
/-- Other blocks that neither has. -/
theorem Two.other {W w : World} {b rb : Nat} {g : Geo} {s r : Nw × List Nw} {Z : Nat → Prop} (h : Two W w b rb g s r Z) : Two W w b rb g s r (fun _ => False) := by
  obtain ⟨X, Y, h1, h2, h3, h4, h5, h6, h7, h8, h9⟩ := h
  exact ⟨X, Y, h1, h2, h3, fun _ _ h => h, fun _ _ h => h, h6, h7, fun _ h => h.elim, h9⟩
/-- What was made since belongs to neither. -/
theorem Two.fresh {W w w' : World} {b rb : Nat} {g : Geo} {s r : Nw × List Nw} {Z : Nat → Prop} (h : Two W w b rb g s r Z) (hb : Below w.heap.size w w') : Two W w' b rb g s r (fun k => Z k ∨ (w.heap.size ≤ k ∧ k < w'.heap.size)) := by
  obtain ⟨X, Y, h1, h2, h3, h4, h5, h6, h7, h8, h9⟩ := h
  refine ⟨fun k => X k ∧ k < w.heap.size, fun k => Y k ∧ k < w.heap.size, h1.lt.go hb, (h2.mono fun k h hl => ⟨h, hl⟩).go hb, fun k hx hy => h3 k hx.1 hy.1, fun k hx hz => ?_, fun k hx hz => ?_, fun k h => h6 k h.1, fun k h => h7 k h.1, fun k hz => ?_, h9.trans (hb.mono h9.size)⟩
  · rcases hz with hz | hz
    · exact h4 k hx.1 hz
    · have := hx.2; omega
  · rcases hz with hz | hz
    · exact h5 k hx.1 hz
    · have := hx.2; omega
  · rcases hz with hz | hz
    · exact Nat.lt_of_lt_of_le (h8 k hz) hb.size
    · exact hz.2
theorem Two.lessZ {W w : World} {b rb : Nat} {g : Geo} {s r : Nw × List Nw} {Z Z' : Nat → Prop} (h : Two W w b rb g s r Z) (hZ : ∀ k, Z' k → Z k) : Two W w b rb g s r Z' := by
  obtain ⟨X, Y, h1, h2, h3, h4, h5, h6, h7, h8, h9⟩ := h
  exact ⟨X, Y, h1, h2, h3, fun k hx hz => h4 k hx (hZ k hz), fun k hx hz => h5 k hx (hZ k hz), h6, h7, fun k hz => h8 k (hZ k hz), h9⟩
/-- Blocks of Z turned, all else as it lay. -/
theorem Two.turnZ {W w w' : World} {b rb : Nat} {g : Geo} {s r : Nw × List Nw} {Z : Nat → Prop} (h : Two W w b rb g s r Z) (hk : Keeps Z w w') (hZ : ∀ k, Z k → W.heap.size ≤ k) : Two W w' b rb g s r Z := by
  obtain ⟨X, Y, h1, h2, h3, h4, h5, h6, h7, h8, h9⟩ := h
  exact ⟨X, Y, h1.keeps hk h4, h2.keeps hk h5, h3, h4, h5, h6, h7, fun k hz => Nat.lt_of_lt_of_le (h8 k hz) hk.size, h9.trans (hk.below hZ h9.size)⟩
theorem two_turn {W w w' : World} {X Y Z : Nat → Prop} {b rb : Nat} {g : Geo} {s r : Nw × List Nw} {v : Value} {e : Ending} (h2 : RfX w Y rb g r.1 r.2) (h3 : ∀ k, X k → ¬ Y k) (h4 : ∀ k, X k → ¬ Z k) (h5 : ∀ k, Y k → ¬ Z k) (h6 : ∀ k, X k → W.heap.size ≤ k) (h7 : ∀ k, Y k → W.heap.size ≤ k) (h8 : ∀ k, Z k → k < w.heap.size) (h9 : Below W.heap.size W w)
    (hg : Goes w X b g s.1 s.2 v e w') : Two W w' b rb g s r Z ∧ KeepZ Z w w' := by
  obtain ⟨-, q1, q2⟩ := hg
  refine ⟨⟨_, fun k => Y k ∧ k < w.heap.size, q1, (h2.mono fun k h hl => ⟨h, hl⟩).keeps q2 (fun k hy hx => h3 k hx hy.1), fun k hx hy => ?_, fun k hx hz => ?_, fun k hy => h5 k hy.1, fun k hx => hx.elim (h6 k) fun h => Nat.le_trans h9.size h, fun k hy => h7 k hy.1, fun k hz => Nat.lt_of_lt_of_le (h8 k hz) q2.size, h9.trans (q2.below h6 h9.size)⟩, fun k hz => q2.block k (h8 k hz) fun hx => h4 k hx hz⟩
  · rcases hx with hx | hx
    · exact h3 k hx hy.1
    · have := hy.2; omega
  · rcases hx with hx | hx
    · exact h4 k hx hz
    · have := h8 k hz; omega
theorem two_rturn {W w w' : World} {X Y Z : Nat → Prop} {b rb : Nat} {g : Geo} {s r : Nw × List Nw} {v : Value} {e : Ending} (h1 : SpX w X b g s.1 s.2) (h3 : ∀ k, X k → ¬ Y k) (h4 : ∀ k, X k → ¬ Z k) (h5 : ∀ k, Y k → ¬ Z k) (h6 : ∀ k, X k → W.heap.size ≤ k) (h7 : ∀ k, Y k → W.heap.size ≤ k) (h8 : ∀ k, Z k → k < w.heap.size) (h9 : Below W.heap.size W w)
    (hg : RGoes w Y rb g r.1 r.2 v e w') : Two W w' b rb g s r Z ∧ KeepZ Z w w' := by
  obtain ⟨-, q1, q2⟩ := hg
  refine ⟨⟨fun k => X k ∧ k < w.heap.size, _, h1.lt.keeps q2 (fun k hx hy => h3 k hx.1 hy), q1, fun k hx hy => ?_, fun k hx => h4 k hx.1, fun k hy hz => ?_, fun k hx => h6 k hx.1, fun k hy => hy.elim (h7 k) fun h => Nat.le_trans h9.size h, fun k hz => Nat.lt_of_lt_of_le (h8 k hz) q2.size, h9.trans (q2.below h7 h9.size)⟩, fun k hz => q2.block k (h8 k hz) fun hy => h5 k hy hz⟩
  · rcases hy with hy | hy
    · exact h3 k hx.1 hy
    · have := hx.2; omega
  · rcases hy with hy | hy
    · exact h5 k hy hz
    · have := h8 k hz; omega
section
variable {W w : World} {b rb : Nat} {g : Geo} {s r : Nw × List Nw} {Z : Nat → Prop}
theorem two_take (sz : Int) (deep : Bool) (h : Two W w b rb g s r Z) (hl : s.2.length ≤ 100000) :
    Calls Try.prog 11 #[.pointer (some ⟨b, 0, none⟩), .int .i64 sz, .bool deep] w fun e w' => e = .returned (.tuple #[.int .i64 (takeR g s.1 s.2 sz deep).at_, .int .i64 (takeR g s.1 s.2 sz deep).err]) ∧ Two W w' b rb g ((takeR g s.1 s.2 sz deep).n, (takeR g s.1 s.2 sz deep).was) r Z ∧ KeepZ Z w w' := by
  obtain ⟨X, Y, h1, h2, h3, h4, h5, h6, h7, h8, h9⟩ := h
  exact (takeX sz deep w X b g s.1 s.2 h1 hl).mono fun e w' hg => ⟨hg.1, two_turn (s := ((takeR g s.1 s.2 sz deep).n, (takeR g s.1 s.2 sz deep).was)) h2 h3 h4 h5 h6 h7 h8 h9 hg⟩
theorem two_back (mark : Int) (h : Two W w b rb g s r Z) :
    Calls Try.prog 15 #[.pointer (some ⟨b, 0, none⟩), .int .i64 mark] w fun e w' => e = .returned (.int .i64 (backR s.1 s.2 mark).err) ∧ Two W w' b rb g ((backR s.1 s.2 mark).n, (backR s.1 s.2 mark).was) r Z ∧ KeepZ Z w w' := by
  obtain ⟨X, Y, h1, h2, h3, h4, h5, h6, h7, h8, h9⟩ := h
  exact (backX mark w X b g s.1 s.2 h1).mono fun e w' hg => ⟨hg.1, two_turn (s := ((backR s.1 s.2 mark).n, (backR s.1 s.2 mark).was)) h2 h3 h4 h5 h6 h7 h8 h9 hg⟩
theorem two_settle (f : Nat → Int) (A : Option Addr) (m c : Nat) (h : Two W w b rb g s r Z) (hm : m ≤ 140737488351232) (ha : Arr w w.heap.size A m fun j => .int .i64 (f j)) (hZ : ∀ b2 o, A = some ⟨b2, o, none⟩ → Z b2) :
    Calls Try.prog 22 #[.pointer (some ⟨b, 0, none⟩), .slice A m c] w fun e w' => e = .returned (.int .i64 (settleR g s.1 s.2 f m).err) ∧ Two W w' b rb g ((settleR g s.1 s.2 f m).n, (settleR g s.1 s.2 f m).was) r Z ∧ KeepZ Z w w' := by
  obtain ⟨X, Y, h1, h2, h3, h4, h5, h6, h7, h8, h9⟩ := h
  exact (settleX f A m c w X b g s.1 s.2 h1 hm ha (fun b2 o e hx => h4 b2 hx (hZ b2 o e))).mono fun e w' hg => ⟨hg.1, two_turn (s := ((settleR g s.1 s.2 f m).n, (settleR g s.1 s.2 f m).was)) h2 h3 h4 h5 h6 h7 h8 h9 hg⟩
theorem two_free (h : Two W w b rb g s r Z) : Calls Try.prog 10 #[.pointer (some ⟨b, 0, none⟩)] w fun e w' => e = .returned (.int .i64 (s.1.fr.count true : Nat)) ∧ Two W w' b rb g s r Z ∧ KeepZ Z w w' := by
  have hh := h
  obtain ⟨X, Y, h1, -⟩ := h
  exact (freeX w X b g s.1 s.2 h1).mono fun e w' hg => ⟨hg.1, hh.go hg.2, hh.keepZ hg.2⟩
theorem two_open (h : Two W w b rb g s r Z) : Calls Try.prog 13 #[.pointer (some ⟨b, 0, none⟩)] w fun e w' => e = .returned (.int .i64 s.1.op) ∧ w = w' := by
  obtain ⟨X, Y, h1, -⟩ := h
  exact openX w X b g s.1 s.2 h1
theorem two_mark (h : Two W w b rb g s r Z) : Calls Try.prog 14 #[.pointer (some ⟨b, 0, none⟩)] w fun e w' => e = .returned (.int .i64 (s.2.length : Nat)) ∧ w = w' := by
  obtain ⟨X, Y, h1, -⟩ := h
  exact markX w X b g s.1 s.2 h1
theorem two_rfree (h : Two W w b rb g s r Z) : Calls Try.prog 25 #[.pointer (some ⟨rb, 0, none⟩)] w fun e w' => e = .returned (.int .i64 (r.1.fr.count true : Nat)) ∧ w = w' := by
  obtain ⟨X, Y, h1, ⟨fv, row, ws, h2⟩, -⟩ := h
  exact rfree25 w Y rb g r.1 r.2 fv row ws h2
theorem two_rsettle (f : Nat → Int) (A : Option Addr) (m c : Nat) (h : Two W w b rb g s r Z) (hm : m ≤ 140737488351232) (ha : Arr w w.heap.size A m fun j => .int .i64 (f j)) :
    Calls Try.prog 23 #[.pointer (some ⟨rb, 0, none⟩), .slice A m c] w fun e w' => e = .returned (.int .i64 (settleR g r.1 r.2 f m).err) ∧ Two W w' b rb g s ((settleR g r.1 r.2 f m).n, (settleR g r.1 r.2 f m).was) Z ∧ KeepZ Z w w' := by
  obtain ⟨X, Y, h1, h2, h3, h4, h5, h6, h7, h8, h9⟩ := h
  exact (rsettleX f A m c w Y rb g r.1 r.2 h2 hm ha).mono fun e w' hg => ⟨hg.1, two_rturn (r := ((settleR g r.1 r.2 f m).n, (settleR g r.1 r.2 f m).was)) h1 h3 h4 h5 h6 h7 h8 h9 hg⟩
end
end Go.Proofs.Ytgoblbmekhcekaa
