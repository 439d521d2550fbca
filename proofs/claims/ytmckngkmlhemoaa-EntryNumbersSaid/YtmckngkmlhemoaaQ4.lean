/- What the document's Item tells of any entry (layer 14). -/
import Derived.Test.YtmckngkmlhemoaaQ1
import Derived.Test.YtmckngkmlhemoaaQ2
import Derived.Test.YtmckngkmlhemoaaQ3
namespace Go.Proofs.Ytmckngkmlhemoaa
open Go.RowKit
theorem item13 (e : Ent) (ok : e.Ok) (w : World) : Calls Try.prog 13 #[.agg e.cells.toArray] w fun r w' => r = .returned (itemOut e) ∧ Below w.heap.size w w' := by
  by_cases h1 : e.kd = 1
  · exact item13_1 e ok w h1
  by_cases h2 : e.kd = 2
  · exact item13_2 e ok w h2
  · exact item13_0 e ok w e.kd rfl h1 h2
end Go.Proofs.Ytmckngkmlhemoaa
