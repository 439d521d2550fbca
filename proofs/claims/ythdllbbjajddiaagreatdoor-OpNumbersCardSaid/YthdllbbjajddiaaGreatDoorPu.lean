/- Layer 25 (op): the program's Put. -/
import Derived.Test.YthdllbbjajddiaaGreatDoorBu
import Derived.BigQuiet
import Derived.Deep.QuietTactic
set_option linter.all false
namespace Go.Proofs.YthdllbbjajddiaaGreatDoor
open Go.RowKit Go.Maps Go.WideMaps
theorem others_alloc (e : TypeId) (b : Option Nat) (w : World) (o : Obj) : Lib.OthersKept e b w (w.alloc o) := fun k _ h _ _ => (Below.heap_alloc w o k (heap_lt h)).trans h
theorem num1 (B b s : Nat) (x : Int) (l : List Int) (w : World) (h : Buf B b l w) (hB : B ≤ w.heap.size) (hs : 1 ≤ s) (hs4 : s ≤ 4) (hl : l.length ≤ 900000) :
    Calls Tryz.prog 18 #[.pointer (some ⟨b, 0, none⟩), .int .i64 s, .slice (some ⟨w.heap.size, 0, none⟩) 1 1] (w.alloc (.cells #[.int .i64 x] 3)) fun e w' => e = .returned (.tuple #[]) ∧ Buf B b (l ++ be s x) w' ∧ Below B w w' ∧ Lib.OthersKept 5 (some b) w w' := by
  have hlt := h.lt
  have h1 := number32 B b w.heap.size s [x] l (w.alloc (.cells #[.int .i64 x] 3)) (h.alloc _) (by simp; omega) (heap_new w _) (by omega) hs hs4 (by simp) hl
  refine h1.mono fun e w' ⟨h2, h3, h4, h5⟩ => ⟨h2, by simpa using h3, (((Below.refl B w).alloc hB _).trans h4), (others_alloc _ _ w _).trans h5⟩
theorem num2 (B b s : Nat) (x y : Int) (l : List Int) (w : World) (h : Buf B b l w) (hB : B ≤ w.heap.size) (hs : 1 ≤ s) (hs4 : s ≤ 4) (hl : l.length ≤ 900000) :
    Calls Tryz.prog 18 #[.pointer (some ⟨b, 0, none⟩), .int .i64 s, .slice (some ⟨w.heap.size, 0, none⟩) 2 2] (w.alloc (.cells #[.int .i64 x, .int .i64 y] 3)) fun e w' => e = .returned (.tuple #[]) ∧ Buf B b (l ++ (be s x ++ be s y)) w' ∧ Below B w w' ∧ Lib.OthersKept 5 (some b) w w' := by
  have hlt := h.lt
  have h1 := number32 B b w.heap.size s [x, y] l (w.alloc (.cells #[.int .i64 x, .int .i64 y] 3)) (h.alloc _) (by simp; omega) (heap_new w _) (by omega) hs hs4 (by simp) hl
  refine h1.mono fun e w' ⟨h2, h3, h4, h5⟩ => ⟨h2, by simpa using h3, (((Below.refl B w).alloc hB _).trans h4), (others_alloc _ _ w _).trans h5⟩
theorem wkey33 (B b g o : Nat) (ks l : List Int) (w : World) (h : Buf B b l w) (hB : B ≤ w.heap.size) (hk : KeyOk 32 ks) (hg : w.rangeAt g o (u8l ks)) (hgb : g ≠ b) (hl : l.length ≤ 900000) :
    Calls Tryz.prog 19 #[.pointer (some ⟨b, 0, none⟩), .slice (some ⟨g, o, none⟩) 32 32] w fun e w' => e = .returned (.tuple #[.int .i64 32, .nilIface]) ∧ Buf B b (l ++ ks) w' ∧ Below B w w' ∧ Lib.OthersKept 5 (some b) w w' :=
  (Any.Buffer_Write_at YthdllbbjajddiaaGreatDoor.laysW 59 (fun _ => none) B b 0 (u8l l) (u8l ks) ⟨g, o, none⟩ 32 32 w h hB (u8l_one l) (by rw [u8l_len, hk.len]) hgb (fun j v hj => by
    have := hg j v hj
    rw [Go.WideShapes.add_plain]; exact this) (u8l_one ks) (by rw [u8l_len]; omega)).mono fun e w' ⟨h1, h2, h3, h4⟩ => ⟨h1, by
    show LibA.IsBuffer _ _ _ _ _ _ (u8l (l ++ ks)) w'
    rw [u8l_app]; exact h2, h3, h4⟩
set_option maxRecDepth 100000 in
theorem bytes35 (B b : Nat) (l : List Int) (w : World) (h : Buf B b l w) (hl : 0 < l.length) :
    Calls Tryz.prog 21 #[.pointer (some ⟨b, 0, none⟩)] w fun e w' => ∃ g c, e = .returned (.slice (some ⟨g, 0, none⟩) l.length c) ∧ w.ownsRow B 5 1 (.slice (some ⟨g, 0, none⟩) l.length c) l.length (u8l l) ∧ ∃ m, w' = w.drewN m := by
  obtain ⟨hBb, v, lr, h3, ho, hne⟩ := h
  rw [u8l_len] at ho
  obtain ⟨n, hn⟩ : ∃ n, n = l.length := ⟨_, rfl⟩
  rw [← hn] at ho hl ⊢
  obtain ⟨g, c, rfl, hg1, hg2⟩ := ho.form hl
  have hnc := row_le_capS ho
  have c0 := h3.c0
  have c1 := h3.c1
  have TL := slice_tail (P := Tryz.prog) Tryz.underlying30 size5 (some ⟨g, 0, none⟩) n c 0 (Nat.zero_le _)
  have e1 : (if c = 0 then (some ⟨g, 0, none⟩ : Option Addr) else (some ⟨g, 0, none⟩ : Option Addr).map (·.add (0 * 1))) = some ⟨g, 0, none⟩ := by
    rw [if_neg (by omega)]; rfl
  rw [e1] at TL
  have tl : ∀ W, (Instr.sliceAt 30 (.slice (some ⟨g, 0, none⟩) n c) (some (.int .i64 0)) none none).run Tryz.prog W = .ok (.slice (some ⟨g, 0, none⟩) n c) W := fun W => TL W
  have HO := Lib.hid ho
  clear h3 ho TL e1 hn
  go_enter Tryz.func21, Tryz.ntmps21
  go_wp2_with fail
  go_quiet (fail)
  go_wp2_with fail
  go_ret
  exact ⟨g, c, rfl, HO.out, _, rfl⟩
end Go.Proofs.YthdllbbjajddiaaGreatDoor
