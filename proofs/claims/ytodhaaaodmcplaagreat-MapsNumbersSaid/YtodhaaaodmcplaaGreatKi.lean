/- The kit's lists of numbers: marks, lists that are lent. -/
import Derived.Test.YtodhaaaodmcplaaGreatKm
set_option linter.all false
namespace Go.Proofs.YtodhaaaodmcplaaGreat
open Go.RowKit
theorem infoI : (Tryz.prog.info? 3).map (fun i => (i.zero, i.size, i.bytes)) = some (some (.int .i64 0), 1, 8) := by kernel_rfl
/-- A mark. -/
def mkI (k i : Nat) : Nat := 1000003 * (k + 7) + i
theorem markI (k i : Nat) (w : World) (hk : k < 100000) (hi : i < 1000000000) : Calls Tryz.prog 68 #[.int .i64 k, .int .i64 i] w fun e w' => e = .returned (.int .i64 (mkI k i : Nat)) ∧ w = w' := mark_k k i w hk hi
def markRowI (t k : Nat) : List Value := (List.range k).map fun i : Nat => Value.int .i64 (mkI t i : Nat)
theorem markRowI_succ (t k : Nat) : markRowI t (k + 1) = markRowI t k ++ [.int .i64 (mkI t k : Nat)] := by simp [markRowI, List.range_succ]
theorem markRowI_length (t k : Nat) : (markRowI t k).length = k := by simp [markRowI]
def LentI (w : World) (n : Nat) (xs : List Value) (e : Ending) (w' : World) : Prop :=
  ∃ g, e = .returned (.slice (some ⟨g, 0, none⟩) n (n + 12)) ∧ w.heap.size ≤ g ∧ w'.heap[g]? = some (.cells (xs ++ markRowI 1 12).toArray 3 (0, 0)) ∧ Below w.heap.size w w'
/-- What was lent reads as an array; its marks behind it. -/
theorem lentI_arr {w : World} {g n : Nat} {f : Nat → Int} (hg : w.heap[g]? = some (.cells (((List.range n).map fun j => Value.int .i64 (f j)) ++ markRowI 1 12).toArray 3 (0, 0))) : Arr w w.heap.size (some ⟨g, 0, none⟩) n fun j => .int .i64 (f j) :=
  Arr.ofBlock n _ hg fun j hj => by simp [hj, List.getElem?_append]
end Go.Proofs.YtodhaaaodmcplaaGreat
