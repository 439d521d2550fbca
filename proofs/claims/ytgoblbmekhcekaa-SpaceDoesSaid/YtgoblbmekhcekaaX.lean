/- What Take and Back of the document's space do, said in one contract each; beside the program's space (layer 19). -/
import Derived.Test.YtgoblbmekhcekaaV
import Derived.Test.YtgoblbmekhcekaaT
namespace Go.Proofs.Ytgoblbmekhcekaa
open Go.RowKit
theorem RGoes.same {w : World} {Y : Nat → Prop} {b : Nat} {g : Geo} {n : Nw} {was : List Nw} {v : Value} {e : Ending} {w' : World} (h : RfX w Y b g n was) (he : e = .returned v ∧ w = w') : RGoes w Y b g n was v e w' := by
  obtain ⟨rfl, rfl⟩ := he
  exact ⟨rfl, h.mono fun _ h _ => .inl h, Keeps.refl _ _⟩
theorem RGoes.below {w : World} {Y : Nat → Prop} {b : Nat} {g : Geo} {n : Nw} {was : List Nw} {v : Value} {e : Ending} {w' : World} (h : RfX w Y b g n was) (he : e = .returned v ∧ Below w.heap.size w w') : RGoes w Y b g n was v e w' :=
  ⟨he.1, (h.go he.2).mono fun _ h _ => .inl h, Keeps.fresh he.2⟩
theorem rtakeX (s : Int) (deep : Bool) (w : World) (Y : Nat → Prop) (b : Nat) (g : Geo) (n : Nw) (was : List Nw) (h : RfX w Y b g n was) (hwas : was.length ≤ 100000) :
    Calls Try.prog 24 #[.pointer (some ⟨b, 0, none⟩), .int .i64 s, .bool deep] w (RGoes w Y b g (takeR g n was s deep).n (takeR g n was s deep).was (.tuple #[.int .i64 (takeR g n was s deep).at_, .int .i64 (takeR g n was s deep).err])) := by
  unfold takeR
  by_cases c1 : s < 1 ∨ g.G < s
  · simp only [if_pos c1]
    exact (rtake24a s deep w Y b g n was h c1).mono fun _ _ h' => RGoes.same h h'
  · simp only [if_neg c1]
    have hs : 1 ≤ s ∧ s ≤ g.G := by omega
    cases c2 : needB g n s
    · simp only [Bool.false_eq_true, if_false]
      exact rtake24m s deep w Y b g n was h hwas hs c2
    · simp only [if_true]
      cases c3 : noB n deep
      · simp only [Bool.false_eq_true, if_false]
        exact rtake24k s deep w Y b g n was h hwas hs c2 c3
      · simp only [if_true]
        exact (rtake24n s deep w Y b g n was h hs c2 c3).mono fun _ _ h' => RGoes.below h h'
theorem rbackX (mark : Int) (w : World) (Y : Nat → Prop) (b : Nat) (g : Geo) (n : Nw) (was : List Nw) (h : RfX w Y b g n was) (hwas : was.length ≤ 100000) :
    Calls Try.prog 21 #[.pointer (some ⟨b, 0, none⟩), .int .i64 mark] w (RGoes w Y b g (backR n was mark).n (backR n was mark).was (.int .i64 (backR n was mark).err)) := by
  unfold backR
  by_cases c1 : mark < 0 ∨ (was.length : Int) < mark
  · simp only [if_pos c1]
    exact (rback21a mark w Y b g n was h c1).mono fun _ _ h' => RGoes.same h h'
  · simp only [if_neg c1]
    obtain ⟨k, rfl⟩ : ∃ k : Nat, mark = k := ⟨mark.toNat, by omega⟩
    simp only [Int.toNat_natCast]
    by_cases c2 : k < was.length
    · simp only [List.getElem?_eq_getElem c2]
      exact rback21l k w Y b g n was h c2 hwas
    · obtain rfl : k = was.length := by omega
      simp only [List.getElem?_eq_none (Nat.le_refl _)]
      exact (rback21s w Y b g n was h).mono fun _ _ h' => RGoes.same h h'
section
variable {W w : World} {b rb : Nat} {g : Geo} {s r : Nw × List Nw} {Z : Nat → Prop}
theorem two_rtake (sz : Int) (deep : Bool) (h : Two W w b rb g s r Z) (hl : r.2.length ≤ 100000) :
    Calls Try.prog 24 #[.pointer (some ⟨rb, 0, none⟩), .int .i64 sz, .bool deep] w fun e w' => e = .returned (.tuple #[.int .i64 (takeR g r.1 r.2 sz deep).at_, .int .i64 (takeR g r.1 r.2 sz deep).err]) ∧ Two W w' b rb g s ((takeR g r.1 r.2 sz deep).n, (takeR g r.1 r.2 sz deep).was) Z ∧ KeepZ Z w w' := by
  obtain ⟨X, Y, h1, h2, h3, h4, h5, h6, h7, h8, h9⟩ := h
  exact (rtakeX sz deep w Y rb g r.1 r.2 h2 hl).mono fun e w' hg => ⟨hg.1, two_rturn (r := ((takeR g r.1 r.2 sz deep).n, (takeR g r.1 r.2 sz deep).was)) h1 h3 h4 h5 h6 h7 h8 h9 hg⟩
theorem two_rback (mark : Int) (h : Two W w b rb g s r Z) (hl : r.2.length ≤ 100000) :
    Calls Try.prog 21 #[.pointer (some ⟨rb, 0, none⟩), .int .i64 mark] w fun e w' => e = .returned (.int .i64 (backR r.1 r.2 mark).err) ∧ Two W w' b rb g s ((backR r.1 r.2 mark).n, (backR r.1 r.2 mark).was) Z ∧ KeepZ Z w w' := by
  obtain ⟨X, Y, h1, h2, h3, h4, h5, h6, h7, h8, h9⟩ := h
  exact (rbackX mark w Y rb g r.1 r.2 h2 hl).mono fun e w' hg => ⟨hg.1, two_rturn (r := ((backR r.1 r.2 mark).n, (backR r.1 r.2 mark).was)) h1 h3 h4 h5 h6 h7 h8 h9 hg⟩
end
end Go.Proofs.Ytgoblbmekhcekaa
