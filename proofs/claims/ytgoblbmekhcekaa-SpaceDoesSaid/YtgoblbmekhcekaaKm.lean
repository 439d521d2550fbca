/- The kit's marks: what they compute. -/
import Derived.Test.YtgoblbmekhcekaaB
import Derived.Test.YtgoblbmekhcekaaProg
import Derived.WalkKit
import Derived.BigQuiet
import Derived.Deep.QuietTactic
import Derived.Deep.RegionHeld3
import Derived.Deep.RegionLaw
import Derived.Lib.Hide
import Derived.Laws.OwnMore
import Derived.Maps.AppendAt
namespace Go.Proofs.Ytgoblbmekhcekaa
open Go.RowKit
theorem mark_k (k i : Nat) (w : World) (hk : k < 100000) (hi : i < 1000000000) : Calls Try.prog 35 #[.int .i64 k, .int .i64 i] w fun e w' => e = .returned (.int .i64 ((1000003 * (k + 7) + i : Nat) : Int)) ∧ w = w' := by
  go_enter Try.func35, Try.ntmps35
  go_wp2_with fail
  go_ret
  exact ⟨ret_int (by omega), rfl⟩
end Go.Proofs.Ytgoblbmekhcekaa
