/- EntryBack (layer 14) tells true of any items, any entry. -/
import Derived.Test.YtmckngkmlhemoaaV1
import Derived.Test.YtmckngkmlhemoaaV2
import Derived.Test.YtmckngkmlhemoaaV3
import Derived.Test.YtmckngkmlhemoaaV4
import Derived.Test.YtmckngkmlhemoaaV5
import Derived.Test.YtmckngkmlhemoaaV6
import Derived.Test.YtmckngkmlhemoaaV7
import Derived.Test.YtmckngkmlhemoaaV8
namespace Go.Proofs.Ytmckngkmlhemoaa
open Go.RowKit
theorem law7 (i k : Itm) (ent : Ent) (oi : i.Ok) (ok : k.Ok) (oe : ent.Ok) (w : World) : Calls Try.prog 7 #[.agg i.cells.toArray, .agg k.cells.toArray, .agg ent.cells.toArray] w fun r w' => r = .returned (.bool true) ∧ Below w.heap.size w w' := by
  by_cases he : ent.it.right = true ∧ ent.it.ent.kv = ent.kv
  · cases hi : i.right <;> cases hk : k.right
    · exact law7_2 i k ent oi ok oe hi hk he w
    · exact law7_4 i k ent oi ok oe hi hk he w
    · exact law7_6 i k ent oi ok oe hi hk he w
    · exact law7_8 i k ent oi ok oe hi hk he w
  · cases hi : i.right <;> cases hk : k.right
    · exact law7_1 i k ent oi ok oe hi hk he w
    · exact law7_3 i k ent oi ok oe hi hk he w
    · exact law7_5 i k ent oi ok oe hi hk he w
    · exact law7_7 i k ent oi ok oe hi hk he w
end Go.Proofs.Ytmckngkmlhemoaa
