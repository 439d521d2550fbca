/- Layer 25 (op): the document's reading of bytes, in plain Lean: what is not there reads as noughts. -/
import Derived.Test.YthdllbbjajddiaaDoorPa
namespace Go.Proofs.YthdllbbjajddiaaDoor
def takeZ (n : Nat) (l : List Int) : List Int × List Int := ((l ++ List.replicate n 0).take n, l.drop n)
def numZ (s : Nat) (l : List Int) : Int × List Int := (num (takeZ s l).1, (takeZ s l).2)
def freshZ (l : List Int) : Fr × List Int :=
  let k := takeZ 32 l; let a := numZ 4 k.2; let n := numZ 2 a.2; let u := numZ 1 n.2
  (⟨k.1, a.1, n.1, u.1, 0⟩, u.2)
def putZ (l : List Int) : Pu × List Int :=
  let x := numZ 2 l; let k := takeZ 32 x.2; let o := numZ 1 k.2; let m := numZ 1 o.2
  (⟨x.1, k.1, o.1, m.1⟩, m.2)
def rowsZ {α : Type} (one : List Int → α × List Int) : Nat → List Int → List α × List Int
  | 0, l => ([], l)
  | n + 1, l => ((one l).1 :: (rowsZ one n (one l).2).1, (rowsZ one n (one l).2).2)
def rowZ {α : Type} (one : List Int → α × List Int) (l : List Int) : List α × List Int := rowsZ one (numZ 1 l).1.toNat (numZ 1 l).2
def parseZ (l : List Int) : OpR :=
  let kd := numZ 1 l
  if kd.1 = 1 then let ns := rowZ freshZ kd.2; let ps := rowZ putZ ns.2; ⟨1, 0, 0, 0, ns.1, ps.1⟩
  else if kd.1 = 2 then let a := numZ 2 kd.2; let n := numZ 2 a.2; ⟨2, a.1, n.1, 0, [], []⟩
  else let s := numZ 4 kd.2; ⟨kd.1, 0, 0, s.1, [], []⟩
theorem takeZ_app {l t : List Int} {n : Nat} (h : l.length = n) : takeZ n (l ++ t) = (l, t) := by
  subst h
  unfold takeZ
  simp
theorem takeZ_len (n : Nat) (l : List Int) : (takeZ n l).1.length = n := by
  unfold takeZ
  simp only [List.length_take, List.length_append, List.length_replicate]
  omega
theorem numZ_app {s : Nat} {x : Int} {t : List Int} (h1 : 0 ≤ x) (h2 : x < 256 ^ s) : numZ s (be s x ++ t) = (x, t) := by
  unfold numZ
  rw [takeZ_app (be_len s x), num_be, Int.emod_eq_of_lt h1 h2]
theorem freshZ_app {f : Fr} (h : DF f) (t : List Int) : freshZ (encF f ++ t) = (f, t) := by
  obtain ⟨h1, h2, h3, h4, h5⟩ := h
  unfold freshZ encF
  simp only [List.append_assoc]
  rw [takeZ_app h1]
  dsimp only
  rw [numZ_app h2.1 (by omega)]
  dsimp only
  rw [numZ_app h3.1 (by omega)]
  dsimp only
  rw [numZ_app h4.1 (by omega)]
  dsimp only
  rw [← h5]
theorem putZ_app {p : Pu} (h : DP p) (t : List Int) : putZ (encP p ++ t) = (p, t) := by
  obtain ⟨h1, h2, h3, h4⟩ := h
  unfold putZ encP
  simp only [List.append_assoc]
  rw [numZ_app h1.1 (by omega)]
  dsimp only
  rw [takeZ_app h2]
  dsimp only
  rw [numZ_app h3.1 (by omega)]
  dsimp only
  rw [numZ_app h4.1 (by omega)]
theorem rowsZ_app {α : Type} {one : List Int → α × List Int} {e : α → List Int} {D : α → Prop} (ha : ∀ x, D x → ∀ t, one (e x ++ t) = (x, t)) : ∀ (l : List α), (∀ x ∈ l, D x) → ∀ t, rowsZ one l.length (l.flatMap e ++ t) = (l, t)
  | [], _, t => rfl
  | x :: l, h, t => by
    rw [List.length_cons, rowsZ, List.flatMap_cons, List.append_assoc, ha x (h x List.mem_cons_self)]
    dsimp only
    rw [rowsZ_app ha l fun y hy => h y (List.mem_cons_of_mem _ hy)]
theorem rowZ_app {α : Type} {one : List Int → α × List Int} {e : α → List Int} {D : α → Prop} (ha : ∀ x, D x → ∀ t, one (e x ++ t) = (x, t)) (l : List α) (h : ∀ x ∈ l, D x) (hn : l.length < 256) (t : List Int) : rowZ one (encRow e l ++ t) = (l, t) := by
  unfold rowZ encRow
  rw [List.append_assoc, numZ_app (by omega) (by omega)]
  dsimp only
  rw [Int.toNat_natCast]
  exact rowsZ_app ha l h t
theorem parseZ_app {o : OpR} (h : DO o) (t : List Int) : parseZ (enc o ++ t) = o := by
  obtain ⟨h1, h2, h3, h4, h5⟩ := h
  unfold parseZ enc
  rw [List.append_assoc, numZ_app h1.1 (by omega)]
  dsimp only
  by_cases k1 : o.kd = 1
  · obtain ⟨a1, a2, a3, a4, a5, a6, a7⟩ := h2 k1
    rw [if_pos k1, if_pos k1, List.append_assoc, rowZ_app (fun x hx t => freshZ_app hx t) o.news a6 a4]
    dsimp only
    rw [rowZ_app (fun x hx t => putZ_app hx t) o.puts a7 a5]
    dsimp only
    obtain ⟨kd, at_, n, sn, news, puts⟩ := o
    simp_all
  · rw [if_neg k1, if_neg k1]
    obtain ⟨b1, b2⟩ := h4 k1
    by_cases k2 : o.kd = 2
    · obtain ⟨a1, a2, a3⟩ := h3 k2
      rw [if_pos k2, if_pos k2, List.append_assoc, numZ_app a1.1 (by omega)]
      dsimp only
      rw [numZ_app a2.1 (by omega)]
      dsimp only
      obtain ⟨kd, at_, n, sn, news, puts⟩ := o
      simp_all
    · obtain ⟨a1, a2, a3, a4⟩ := h5 k1 k2
      rw [if_neg k2, if_neg k2, numZ_app a3 (by omega)]
      dsimp only
      obtain ⟨kd, at_, n, sn, news, puts⟩ := o
      simp_all
/-- What the document tells of bytes. -/
def decZ (b : List Int) : Option OpR := if rightB (parseZ b) = true ∧ enc (parseZ b) = b then some (parseZ b) else none
theorem freshZ_len (l : List Int) : (freshZ l).1.k.length = 32 := takeZ_len _ _
theorem putZ_len (l : List Int) : (putZ l).1.k.length = 32 := takeZ_len _ _
theorem rowsZ_all {α : Type} {one : List Int → α × List Int} {Q : α → Prop} (h : ∀ l, Q (one l).1) : ∀ n l, ∀ x ∈ (rowsZ one n l).1, Q x
  | 0, _, x, hx => by cases hx
  | n + 1, l, x, hx => by
    rw [rowsZ] at hx
    rcases List.mem_cons.1 hx with rfl | hx
    · exact h l
    · exact rowsZ_all h n _ x hx
theorem parseZ_ko (l : List Int) : KO (parseZ l) := by
  unfold parseZ
  dsimp only
  split
  · exact ⟨fun f hf => rowsZ_all (Q := fun f : Fr => f.k.length = 32) freshZ_len _ _ f hf, fun p hp => rowsZ_all (Q := fun p : Pu => p.k.length = 32) putZ_len _ _ p hp⟩
  · split
    · exact ⟨(fun f hf => by cases hf), fun p hp => by cases hp⟩
    · exact ⟨(fun f hf => by cases hf), fun p hp => by cases hp⟩
theorem decZ_dec {b : List Int} (hb : Byt b) : decZ b = dec b := by
  unfold decZ
  cases hd : dec b with
  | some o =>
    obtain ⟨h1, h2, h3⟩ := dec_some hd hb
    have e : parseZ b = o := by
      have := parseZ_app h3 []
      rw [List.append_nil, h2] at this
      exact this
    rw [e, if_pos ⟨h1, h2⟩]
  | none =>
    refine if_neg fun ⟨h1, h2⟩ => ?_
    have := dec_enc h1 (parseZ_ko b)
    rw [h2, hd] at this
    cases this
end Go.Proofs.YthdllbbjajddiaaDoor
