/- What entry.Of tells of any item (layer 14). -/
import Derived.Test.YtmckngkmlhemoaaM0
import Derived.Test.YtmckngkmlhemoaaM1
import Derived.Test.YtmckngkmlhemoaaM2
import Derived.Test.YtmckngkmlhemoaaM3
namespace Go.Proofs.Ytmckngkmlhemoaa
open Go.RowKit
theorem of9 (i : Itm) (ok : i.Ok) (w : World) : Calls Try.prog 9 #[.agg i.cells.toArray] w fun e w' => e = .returned (ofOut i) ∧ Below w.heap.size w w' := by
  by_cases h1 : i.kind = 1
  · exact of9_1 i ok w h1
  by_cases h2 : i.kind = 2
  · exact of9_2 i ok w h2
  by_cases h3 : i.kind = 3
  · exact of9_3 i ok w h3
  · exact of9_0 i ok w i.kind rfl h1 h2 h3
end Go.Proofs.Ytmckngkmlhemoaa
