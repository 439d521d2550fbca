/- Layer 24 (refs): words for sums in a map. -/
import Derived.Test.YtblfkngdieffiaaCt
import Derived.Test.YtblfkngdieffiaaIt
import Derived.Test.YtblfkngdieffiaaMk2
import Derived.Test.YtblfkngdieffiaaKm
import Derived.Test.YtblfkngdieffiaaSrt
import Derived.Carry
import Derived.IntWalk
namespace Go.Proofs.Ytblfkngdieffiaa
open Go.RowKit Go.Maps Go.WideMaps
theorem arrK : ArrKey Try.prog 35 5 32 := ⟨Try.underlying35, by kernel_rfl, by kernel_rfl, by kernel_rfl⟩
theorem lawK : KeyLaw Try.prog 35 := arrK.law
theorem keyedK : Keyed Try.prog 35 := Keyed.of_law arrK.law
theorem types_pos : ∃ m, Try.prog.types.size = m + 1 := by
  have h : 0 < Try.prog.types.size := of_decide_eq_true (by kernel_rfl)
  exact ⟨Try.prog.types.size - 1, by omega⟩
theorem zero3 (w : World) : (zeroValue 3).run Try.prog w = .ok (.int .i64 0) w := by kernel_rfl
theorem keyK {ks : List Int} (h : KeyOk 32 ks) : keyOf Try.prog 35 (kv ks) = some (kl ks) := keyOf_arr arrK Try.underlying5 types_pos h
theorem wf_wrap (x : Int) : (Lit.int .i64 (wrap64 x)).wf = true := wrap64_wf x
/-- What a map of sums holds. -/
def Lf (cs : List Ct) (ks : List Int) : Option Int := if hasK cs ks = true then some (wrap64 (sumT cs ks)) else none
theorem Lf_at (cs : List Ct) (ks : List Int) : (Lf cs ks).getD 0 = wrap64 (sumT cs ks) := by
  unfold Lf
  cases h : hasK cs ks with
  | true => rfl
  | false => rw [sumT_none h, IntWalk.wrap64_in 0 (by omega)]; rfl
theorem Lf_add (cs : List Ct) (k : List Int) (n : Int) (ks : List Int) : (if ks = k then some (wrap64 (wrap64 (sumT cs k) + n)) else Lf cs ks) = Lf (cs ++ [⟨k, n⟩]) ks := by
  have e1 : sumT (cs ++ [⟨k, n⟩]) ks = sumT cs ks + if k = ks then n else 0 := by rw [sumT_append]; simp [sumT]
  have e2 : hasK (cs ++ [⟨k, n⟩]) ks = (hasK cs ks || decide (k = ks)) := by rw [hasK_append]; simp [hasK]
  unfold Lf
  rw [e1, e2]
  by_cases h : ks = k
  · subst h
    simp [wrap_wrap]
  · have h2 : ¬ k = ks := fun e => h e.symm
    rw [if_neg h, if_neg h2, decide_eq_false h2, Bool.or_false, Int.add_zero]
/-- What items count. -/
def csI (I : Nat → ElIt) : Nat → List Ct
  | 0 => []
  | n + 1 => csI I n ++ if (I n).1.kind = 2 then [⟨(I n).1.sk, 1⟩] else []
theorem csI_one (I : Nat → ElIt) {n : Nat} (h : (I n).1.kind = 2) : csI I (n + 1) = csI I n ++ [⟨(I n).1.sk, 1⟩] := by rw [csI, if_pos h]
theorem csI_no (I : Nat → ElIt) {n : Nat} (h : ¬ (I n).1.kind = 2) : csI I (n + 1) = csI I n := by rw [csI, if_neg h, List.append_nil]
theorem itm_sk (i : ElIt) {w : World} {b : Nat} (h : w.rangeAt b 0 (cellsIt i)) : w.rangeAt b 39 (u8l i.1.sk) := by
  intro j v hj
  have hlt : j < 32 := by rw [← i.2.sk.len, ← u8l_len]; exact (List.getElem?_eq_some_iff.1 hj).1
  have h2 := h (39 + j) v (by
    have e1 : (u8l i.1.key).length = 32 := by rw [u8l_len, i.2.key.len]
    unfold cellsIt itmCells
    rw [List.getElem?_append_right (by simp; omega), List.getElem?_append_right (by simp [e1]; omega), List.getElem?_append_right (by simp [e1]; omega), List.getElem?_append_right (by simp [e1]; omega), List.getElem?_append_left (by simp [e1, u8l_len, i.2.sk.len]; omega)]
    simp only [List.length_cons, List.length_nil, e1]
    rw [show 39 + j - (0 + 1) - 32 - (0 + 1 + 1 + 1 + 1) - (0 + 1 + 1) = j by omega]
    exact hj)
  rwa [Nat.zero_add] at h2
theorem itm_kind (i : ElIt) {w : World} {b o : Nat} (h : w.rangeAt b o (cellsIt i)) : w.cell? ⟨b, o, none⟩ = some (.int .u8 i.1.kind) := h 0 _ rfl
theorem infoKey : (Try.prog.info? 35).map (·.size) = some 32 := by kernel_rfl
theorem sizeIt0 (x : ElIt) : (Try.prog.info? 42).map (·.size) = some (cellsIt x).length := by
  rw [lenIt]; kernel_rfl
def CountMap (B n : Nat) (cs : List Ct) (w : World) : Prop := Tm Try.prog w 35 3 32 B n (Lf cs)
theorem range_of {w : World} {b : Nat} {cs : List Value} {t : TypeId} {z : Nat × Nat} (h : w.heap[b]? = some (.cells cs.toArray t z)) : w.rangeAt b 0 cs := fun j v hj => block_cell h _ v (by rw [Nat.zero_add]; simpa using hj)
end Go.Proofs.Ytblfkngdieffiaa
