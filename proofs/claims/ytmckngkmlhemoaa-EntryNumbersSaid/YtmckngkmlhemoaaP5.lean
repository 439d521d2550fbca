/- What entry.Item tells of any entry (layer 14). -/
import Derived.Test.YtmckngkmlhemoaaP1
import Derived.Test.YtmckngkmlhemoaaP2
import Derived.Test.YtmckngkmlhemoaaP3
import Derived.Test.YtmckngkmlhemoaaP4
namespace Go.Proofs.Ytmckngkmlhemoaa
open Go.RowKit
theorem item12 (e : Ent) (ok : e.Ok) (w : World) : Calls Try.prog 12 #[.agg e.cells.toArray] w fun r w' => r = .returned (itemOut e) ∧ Below w.heap.size w w' := by
  by_cases h1 : e.kd = 1
  · exact item12_1 e ok w h1
  by_cases h2 : e.kd = 2
  · exact item12_2 e ok w h2
  by_cases h3 : e.kd = 3
  · exact item12_3 e ok w h3
  · exact item12_0 e ok w e.kd rfl h1 h2 h3
end Go.Proofs.Ytmckngkmlhemoaa
