/- Layer 25 (op): ops as cells; a number within bounds. -/
import Derived.Test.YthdllbbjajddiaaGreatDoorPz
import Derived.Test.YthdllbbjajddiaaGreatDoorBig2
import Derived.Test.YthdllbbjajddiaaGreatDoorU8
import Derived.Test.YthdllbbjajddiaaGreatDoorMk2
import Derived.Test.YthdllbbjajddiaaGreatDoorChecked
set_option linter.all false
namespace Go.Proofs.YthdllbbjajddiaaGreatDoor
open Go.RowKit Go.Maps Go.WideMaps
structure OkFr (f : Fr) : Prop where
  key : KeyOk 32 f.k
  a : (Lit.int .i64 f.a).wf = true
  n : (Lit.int .i64 f.n).wf = true
  u : (Lit.int .i64 f.u).wf = true
  r : (Lit.int .i64 f.r).wf = true
structure OkPu (p : Pu) : Prop where
  x : (Lit.int .i64 p.x).wf = true
  key : KeyOk 32 p.k
  o : (Lit.int .i64 p.o).wf = true
  m : (Lit.int .i64 p.m).wf = true
abbrev ElF := { f : Fr // OkFr f }
abbrev ElP := { p : Pu // OkPu p }
theorem kz_ok : KeyOk 32 (List.replicate 32 0) := ⟨by simp, fun x hx => by rw [List.eq_of_mem_replicate hx]; omega⟩
theorem wf00 : (Lit.int .i64 0).wf = true := by kernel_rfl
instance : Inhabited ElF := ⟨⟨List.replicate 32 0, 0, 0, 0, 0⟩, ⟨kz_ok, wf00, wf00, wf00, wf00⟩⟩
instance : Inhabited ElP := ⟨⟨0, List.replicate 32 0, 0, 0⟩, ⟨wf00, kz_ok, wf00, wf00⟩⟩
def frC (f : Fr) : List Value := u8l f.k ++ [.int .i64 f.a, .int .i64 f.n, .int .i64 f.u, .int .i64 f.r]
def puC (p : Pu) : List Value := [.int .i64 p.x] ++ (u8l p.k ++ [.int .i64 p.o, .int .i64 p.m])
def cellsF (f : ElF) : List Value := frC f.1
def cellsP (p : ElP) : List Value := puC p.1
theorem lenF (f : ElF) : (cellsF f).length = 36 := by simp [cellsF, frC, u8l_len, f.2.key.len]
theorem lenP (p : ElP) : (cellsP p).length = 35 := by simp [cellsP, puC, u8l_len, p.2.key.len]
theorem oneF (f : ElF) : ∀ v ∈ cellsF f, v.oneCell' = true := by
  intro v hv
  simp only [cellsF, frC, List.mem_append] at hv
  rcases hv with hv | hv
  · exact u8l_one _ v hv
  · simp at hv; rcases hv with rfl | rfl | rfl | rfl <;> rfl
theorem oneP (p : ElP) : ∀ v ∈ cellsP p, v.oneCell' = true := by
  intro v hv
  simp only [cellsP, puC, List.mem_append] at hv
  rcases hv with hv | hv | hv
  · obtain rfl := List.mem_singleton.1 hv; rfl
  · exact u8l_one _ v hv
  · simp at hv; rcases hv with rfl | rfl <;> rfl
theorem wideF (L : Nat → ElF) : Wide 36 fun i => cellsF (L i) := fun i => lenF (L i)
theorem wideP (L : Nat → ElP) : Wide 35 fun i => cellsP (L i) := fun i => lenP (L i)
theorem onesF (L : Nat → ElF) (n : Nat) : ∀ u ∈ flatS (fun i => cellsF (L i)) n, u.oneCell' = true := flatS_one fun _ _ u hu => oneF _ u hu
theorem onesP (L : Nat → ElP) (n : Nat) : ∀ u ∈ flatS (fun i => cellsP (L i)) n, u.oneCell' = true := flatS_one fun _ _ u hu => oneP _ u hu
theorem infoF : (Tryz.prog.info? 53).map (·.size) = some 36 := by kernel_rfl
theorem infoP : (Tryz.prog.info? 48).map (·.size) = some 35 := by kernel_rfl
theorem infoKey : (Tryz.prog.info? 44).map (·.size) = some 32 := by kernel_rfl
theorem sizeF (x : ElF) : (Tryz.prog.info? 53).map (·.size) = some (cellsF x).length := by rw [lenF]; exact infoF
theorem sizeP (x : ElP) : (Tryz.prog.info? 48).map (·.size) = some (cellsP x).length := by rw [lenP]; exact infoP
theorem within30 (n a b : Int) (w : World) : Calls Tryz.prog 23 #[.int .i64 n, .int .i64 a, .int .i64 b] w fun e w' => e = .returned (.bool (decide (a ≤ n ∧ n ≤ b))) ∧ w = w' := by
  by_cases h1 : a ≤ n
  · by_cases h2 : n ≤ b
    · go_enter Tryz.func23, Tryz.ntmps23
      go_wp2
      go_ret
      exact ⟨by simp [h1, h2], rfl⟩
    · have d2 : decide (n ≤ b) = false := by simpa using h2
      go_enter Tryz.func23, Tryz.ntmps23
      go_wp2
      go_ret
      exact ⟨by simp [h2], rfl⟩
  · have d1 : decide (a ≤ n) = false := by simpa using h1
    go_enter Tryz.func23, Tryz.ntmps23
    go_wp2
    go_ret
    exact ⟨by first | rfl | (rw [show decide (a ≤ n ∧ n ≤ b) = false from decide_eq_false (by omega)]; rfl), rfl⟩
theorem withinT (n a b : Int) (w : World) (h : a ≤ n ∧ n ≤ b) : Calls Tryz.prog 23 #[.int .i64 n, .int .i64 a, .int .i64 b] w fun e w' => e = .returned (.bool true) ∧ w = w' := by
  have := within30 n a b w
  rwa [decide_eq_true h] at this
theorem withinF (n a b : Int) (w : World) (h : ¬ (a ≤ n ∧ n ≤ b)) : Calls Tryz.prog 23 #[.int .i64 n, .int .i64 a, .int .i64 b] w fun e w' => e = .returned (.bool false) ∧ w = w' := by
  have := within30 n a b w
  rwa [decide_eq_false h] at this
theorem follows : Tryz.prog.follows .mixedOrders = true := by kernel_rfl
theorem arrK : ArrKey Tryz.prog 44 5 32 := ⟨Tryz.underlying44, by kernel_rfl, by kernel_rfl, by kernel_rfl⟩
theorem types_pos : ∃ m, Tryz.prog.types.size = m + 1 := by
  refine ⟨Tryz.prog.types.size - 1, ?_⟩
  have : 0 < Tryz.prog.types.size := of_decide_eq_true (by kernel_rfl)
  omega
end Go.Proofs.YthdllbbjajddiaaGreatDoor
namespace Go.Proofs.YthdllbbjajddiaaGreatDoor
open Go.RowKit
def nl (I : Nat → ElF) (n : Nat) : List Fr := (List.range n).map fun i => (I i).1
def pl (P : Nat → ElP) (n : Nat) : List Pu := (List.range n).map fun i => (P i).1
theorem nl_s (I : Nat → ElF) (n : Nat) : nl I (n + 1) = nl I n ++ [(I n).1] := by simp [nl, List.range_succ]
theorem pl_s (P : Nat → ElP) (n : Nat) : pl P (n + 1) = pl P n ++ [(P n).1] := by simp [pl, List.range_succ]
theorem nl_len (I : Nat → ElF) (n : Nat) : (nl I n).length = n := by simp [nl]
theorem pl_len (P : Nat → ElP) (n : Nat) : (pl P n).length = n := by simp [pl]
theorem nl_ko (I : Nat → ElF) (n : Nat) : ∀ f ∈ nl I n, f.k.length = 32 := fun f hf => by
  obtain ⟨i, _, rfl⟩ := List.mem_map.1 hf
  exact (I i).2.key.len
theorem pl_ko (P : Nat → ElP) (n : Nat) : ∀ f ∈ pl P n, f.k.length = 32 := fun f hf => by
  obtain ⟨i, _, rfl⟩ := List.mem_map.1 hf
  exact (P i).2.key.len
def newsOk (l : List Fr) : Bool := l.all frB && decide ((l.map Fr.k).Nodup)
theorem newsOk_snoc (l : List Fr) (f : Fr) : newsOk (l ++ [f]) = (newsOk l && (frB f && decide (f.k ∉ l.map Fr.k))) := by
  unfold newsOk
  rw [List.all_append, List.map_append, Bool.eq_iff_iff]
  simp only [Bool.and_eq_true, decide_eq_true_eq, List.all_cons, List.all_nil, Bool.and_true, List.map_cons, List.map_nil, List.nodup_append]
  constructor
  · rintro ⟨⟨h1, h2⟩, h3, -, h4⟩
    exact ⟨⟨h1, h3⟩, h2, fun h => h4 _ h _ List.mem_cons_self rfl⟩
  · rintro ⟨⟨h1, h3⟩, h2, h4⟩
    refine ⟨⟨h1, h2⟩, h3, by simp, fun a ha b hb e => ?_⟩
    rw [List.mem_singleton.1 hb] at e
    exact h4 (e ▸ ha)
theorem newsOk_false (I : Nat → ElF) {k : Nat} (h : newsOk (nl I k) = false) : ∀ n, k ≤ n → newsOk (nl I n) = false
  | 0, hk => by
    obtain rfl : k = 0 := by omega
    exact h
  | n + 1, hk => by
    by_cases e : k = n + 1
    · rw [← e]; exact h
    · rw [nl_s, newsOk_snoc, newsOk_false I h n (by omega), Bool.false_and]
def putOk (least : Int) (p : Pu) : Bool := decide (least ≤ p.x ∧ p.x ≤ 511) && decide (0 ≤ p.o ∧ p.o ≤ 15) && decide (1 ≤ p.m ∧ p.m ≤ 255)
def leastL : Int → List Pu → Int
  | a, [] => a
  | _, p :: l => leastL (p.x + 1) l
theorem leastL_snoc : ∀ (l : List Pu) (a : Int) (p : Pu), leastL a (l ++ [p]) = p.x + 1
  | [], _, _ => rfl
  | q :: l, a, p => leastL_snoc l (q.x + 1) p
theorem putsB_snoc : ∀ (l : List Pu) (a : Int) (p : Pu), putsB a (l ++ [p]) = (putsB a l && putOk (leastL a l) p)
  | [], a, p => by
    show (_ && _ && _ && putsB _ []) = (true && putOk a p)
    simp [putsB, putOk]
  | q :: l, a, p => by
    show (_ && putsB (q.x + 1) (l ++ [p])) = (_ && putsB (q.x + 1) l && putOk (leastL (q.x + 1) l) p)
    rw [putsB_snoc l]
    simp only [Bool.and_assoc]
theorem putsB_false (P : Nat → ElP) {k : Nat} (h : putsB 0 (pl P k) = false) : ∀ n, k ≤ n → putsB 0 (pl P n) = false
  | 0, hk => by
    obtain rfl : k = 0 := by omega
    exact h
  | n + 1, hk => by
    by_cases e : k = n + 1
    · rw [← e]; exact h
    · rw [pl_s, putsB_snoc, putsB_false P h n (by omega), Bool.false_and]
/-- A write's rows are right. -/
def rowsB (ns : List Fr) (ps : List Pu) : Bool := newsOk ns && putsB 0 ps && (decide (ns.length ≤ 18) && decide (ps.length ≤ 18))
theorem write_rows (o : OpR) : writeB o = rowsB o.news o.puts := by
  unfold writeB rowsB newsOk
  simp only [Bool.and_assoc]
theorem rowsB_news {ns : List Fr} {ps : List Pu} (h : newsOk ns = false) : rowsB ns ps = false := by unfold rowsB; rw [h]; rfl
theorem rowsB_puts {ns : List Fr} {ps : List Pu} (h : putsB 0 ps = false) : rowsB ns ps = false := by unfold rowsB; rw [h, Bool.and_false]; rfl
theorem rowsB_len {ns : List Fr} {ps : List Pu} (h1 : newsOk ns = true) (h2 : putsB 0 ps = true) : rowsB ns ps = (decide (ns.length ≤ 18) && decide (ps.length ≤ 18)) := by unfold rowsB; rw [h1, h2]; rfl
/-- How often a key was seen among keys that are all unlike. -/
def seenL (l : List Fr) (k : List Int) : Option Int := if k ∈ l.map Fr.k then some 1 else none
end Go.Proofs.YthdllbbjajddiaaGreatDoor
