/- The kit's marks: what they compute. -/
import Derived.Test.YtodhaaaodmcplaaKeep
import Derived.Test.YtodhaaaodmcplaaProg
import Derived.WalkKit
import Derived.BigQuiet
import Derived.Deep.QuietTactic
import Derived.Deep.RegionHeld3
import Derived.Deep.RegionLaw
import Derived.Lib.Hide
import Derived.Laws.OwnMore
import Derived.Maps.AppendAt
set_option linter.all false
namespace Go.Proofs.Ytodhaaaodmcplaa
open Go.RowKit
theorem infoParts {P : Program} {T : TypeId} {z : Value} {s b : Nat} (h : (P.info? T).map (fun i => (i.zero, i.size, i.bytes)) = some (some z, s, b)) : ∃ i, P.info? T = some i ∧ i.zero = some z ∧ i.size = s ∧ i.bytes = b := by
  cases hi : P.info? T with
  | none => simp [hi] at h
  | some i => simp [hi] at h; exact ⟨i, rfl, h.1, h.2.1, h.2.2⟩
end Go.Proofs.Ytodhaaaodmcplaa
