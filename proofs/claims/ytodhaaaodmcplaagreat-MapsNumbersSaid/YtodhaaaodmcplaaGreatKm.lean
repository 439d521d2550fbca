/- The kit's marks: what they compute. -/
import Derived.Test.YtodhaaaodmcplaaGreatKeep
import Derived.Test.YtodhaaaodmcplaaGreatProg
import Derived.WalkKit
import Derived.BigQuiet
import Derived.Deep.QuietTactic
import Derived.Deep.RegionHeld3
import Derived.Deep.RegionLaw
import Derived.Lib.Hide
import Derived.Laws.OwnMore
import Derived.Maps.AppendAt
set_option linter.all false
namespace Go.Proofs.YtodhaaaodmcplaaGreat
open Go.RowKit
theorem infoParts {P : Program} {T : TypeId} {z : Value} {s b : Nat} (h : (P.info? T).map (fun i => (i.zero, i.size, i.bytes)) = some (some z, s, b)) : ∃ i, P.info? T = some i ∧ i.zero = some z ∧ i.size = s ∧ i.bytes = b := by
  cases hi : P.info? T with
  | none => simp [hi] at h
  | some i => simp [hi] at h; exact ⟨i, rfl, h.1, h.2.1, h.2.2⟩
theorem mark_k (k i : Nat) (w : World) (hk : k < 100000) (hi : i < 1000000000) : Calls Tryz.prog 68 #[.int .i64 k, .int .i64 i] w fun e w' => e = .returned (.int .i64 ((1000003 * (k + 7) + i : Nat) : Int)) ∧ w = w' := by
  go_enter Tryz.func68, Tryz.ntmps68
  go_wp2_with fail
  go_ret
  exact ⟨ret_int (by omega), rfl⟩
end Go.Proofs.YtodhaaaodmcplaaGreat
