/-
  No cell of these rows narrows 'for every input' (looked for: loops, veiled, ifaces, maps, wideKeys, modest, calm, conditions, laid).
  DERIVED. THE GIVEN ROWS OF THIS SEAT. 6 by the template 'for every input the law returns true; each argument reads behind the call as it read before'; 0 by the template 'total and deterministic' (their statements: YtmckngkmlhemoaaTotals.lean).
  GIVEN WITH THE SEED: the statements are not yours to turn. If you find one false, say at which input.
  Laid BY PROGRAM, IN A SANDBOX (cutbox-rows.mjs): the forced cells as the released guide's own fill.sh prints them over the translation 43554b1987fbe875… (all of the seat's roots in one cut). By AI agents, Wed Nov 11 2026. No macro, syntax, notation, axiom, sorry.
-/
import Derived.Test.YtmckngkmlhemoaaChecked
import GoSem.Claim
import GoSem.ClaimJoined
import GoSem.ClaimMapViews
import Derived.JoinedTies
import Derived.KernelRfl
namespace Go.Proofs.Ytmckngkmlhemoaa
/- THE CELL 'sum', in the pinned program and in every row, IS THE sha256 OF THE DUMP (.gsa) THAT YtmckngkmlhemoaaProg.lean LOADS. Nothing in Lean hashes anything: it is a label: what it is worth is what the hold of that sum in a sandbox is worth. -/
noncomputable def Try.pinned : Pinned := { name := "ytmckngkmlhemoaa", sum := "43554b1987fbe875ee6f460ee0ad1bc25f1230437fc225d7d9179ba005638666", checked := Try.checked }
namespace Rows
def none {H : Type} : Left H := { results := [], args := [] }

/-- 'peatbanklaw14.EntryOf': WHATEVER THE INPUT: true; the input reads as it did. -/
def entryOfSpec : ChangeSpec := { name := "entryOf", fn := fun _ => fun
  | [d] => { results := [.lit (.bool true)], args := [d] }
  | _ => none }
def entryOfRow : OpenClaim := { program := "ytmckngkmlhemoaa", sum := "43554b1987fbe875ee6f460ee0ad1bc25f1230437fc225d7d9179ba005638666", func := "peatbank/peatbanklaw14.EntryOf", spec := "entryOf", inPlace := ["internal/bytealg.Compare"], apart := false }
def EntryOfSaid : Prop := entryOfRow.holds Try.pinned (OpenSpec.ofChange entryOfSpec)

/-- ITS FALSE NEIGHBOUR: 'it returns false'. Refute it at one input. -/
def entryOfWrong : ChangeSpec := { name := "entryOf", fn := fun _ => fun
  | [d] => { results := [.lit (.bool false)], args := [d] }
  | _ => none }
def EntryOfWrongFalsely : Prop := entryOfRow.holds Try.pinned (OpenSpec.ofChange entryOfWrong)

/-- 'peatbanklaw14.EntryItem': WHATEVER THE INPUT: true; the input reads as it did. -/
def entryItemSpec : ChangeSpec := { name := "entryItem", fn := fun _ => fun
  | [d] => { results := [.lit (.bool true)], args := [d] }
  | _ => none }
def entryItemRow : OpenClaim := { program := "ytmckngkmlhemoaa", sum := "43554b1987fbe875ee6f460ee0ad1bc25f1230437fc225d7d9179ba005638666", func := "peatbank/peatbanklaw14.EntryItem", spec := "entryItem", inPlace := ["internal/bytealg.Compare"], apart := false }
def EntryItemSaid : Prop := entryItemRow.holds Try.pinned (OpenSpec.ofChange entryItemSpec)

/-- ITS FALSE NEIGHBOUR: 'it returns false'. Refute it at one input. -/
def entryItemWrong : ChangeSpec := { name := "entryItem", fn := fun _ => fun
  | [d] => { results := [.lit (.bool false)], args := [d] }
  | _ => none }
def EntryItemWrongFalsely : Prop := entryItemRow.holds Try.pinned (OpenSpec.ofChange entryItemWrong)

/-- 'peatbanklaw14.EntryCompare': WHATEVER THE INPUT: true; the input reads as it did. -/
def entryCompareSpec : ChangeSpec := { name := "entryCompare", fn := fun _ => fun
  | [d1, d2] => { results := [.lit (.bool true)], args := [d1, d2] }
  | _ => none }
def entryCompareRow : OpenClaim := { program := "ytmckngkmlhemoaa", sum := "43554b1987fbe875ee6f460ee0ad1bc25f1230437fc225d7d9179ba005638666", func := "peatbank/peatbanklaw14.EntryCompare", spec := "entryCompare", inPlace := ["internal/bytealg.Compare"], apart := false }
def EntryCompareSaid : Prop := entryCompareRow.holds Try.pinned (OpenSpec.ofChange entryCompareSpec)

/-- ITS FALSE NEIGHBOUR: 'it returns false'. Refute it at one input. -/
def entryCompareWrong : ChangeSpec := { name := "entryCompare", fn := fun _ => fun
  | [d1, d2] => { results := [.lit (.bool false)], args := [d1, d2] }
  | _ => none }
def EntryCompareWrongFalsely : Prop := entryCompareRow.holds Try.pinned (OpenSpec.ofChange entryCompareWrong)

/-- 'peatbanklaw14.EntryNumbers': WHATEVER THE INPUT: true; the input reads as it did. -/
def entryNumbersSpec : ChangeSpec := { name := "entryNumbers", fn := fun _ => fun
  | [] => { results := [.lit (.bool true)], args := [] }
  | _ => none }
def entryNumbersRow : OpenClaim := { program := "ytmckngkmlhemoaa", sum := "43554b1987fbe875ee6f460ee0ad1bc25f1230437fc225d7d9179ba005638666", func := "peatbank/peatbanklaw14.EntryNumbers", spec := "entryNumbers", inPlace := ["internal/bytealg.Compare"], apart := false }
def EntryNumbersSaid : Prop := entryNumbersRow.holds Try.pinned (OpenSpec.ofChange entryNumbersSpec)

/-- ITS FALSE NEIGHBOUR: 'it returns false'. Refute it at one input. -/
def entryNumbersWrong : ChangeSpec := { name := "entryNumbers", fn := fun _ => fun
  | [] => { results := [.lit (.bool false)], args := [] }
  | _ => none }
def EntryNumbersWrongFalsely : Prop := entryNumbersRow.holds Try.pinned (OpenSpec.ofChange entryNumbersWrong)

/-- 'peatbanklaw14.EntryBack': WHATEVER THE INPUT: true; the input reads as it did. -/
def entryBackSpec : ChangeSpec := { name := "entryBack", fn := fun _ => fun
  | [d1, d2, d3] => { results := [.lit (.bool true)], args := [d1, d2, d3] }
  | _ => none }
def entryBackRow : OpenClaim := { program := "ytmckngkmlhemoaa", sum := "43554b1987fbe875ee6f460ee0ad1bc25f1230437fc225d7d9179ba005638666", func := "peatbank/peatbanklaw14.EntryBack", spec := "entryBack", inPlace := ["internal/bytealg.Compare"], apart := false }
def EntryBackSaid : Prop := entryBackRow.holds Try.pinned (OpenSpec.ofChange entryBackSpec)

/-- ITS FALSE NEIGHBOUR: 'it returns false'. Refute it at one input. -/
def entryBackWrong : ChangeSpec := { name := "entryBack", fn := fun _ => fun
  | [d1, d2, d3] => { results := [.lit (.bool false)], args := [d1, d2, d3] }
  | _ => none }
def EntryBackWrongFalsely : Prop := entryBackRow.holds Try.pinned (OpenSpec.ofChange entryBackWrong)

/-- 'peatbanklaw14.EntryOrder': WHATEVER THE INPUT: true; the input reads as it did. -/
def entryOrderSpec : ChangeSpec := { name := "entryOrder", fn := fun _ => fun
  | [d1, d2, d3, d4, d5] => { results := [.lit (.bool true)], args := [d1, d2, d3, d4, d5] }
  | _ => none }
def entryOrderRow : OpenClaim := { program := "ytmckngkmlhemoaa", sum := "43554b1987fbe875ee6f460ee0ad1bc25f1230437fc225d7d9179ba005638666", func := "peatbank/peatbanklaw14.EntryOrder", spec := "entryOrder", inPlace := ["internal/bytealg.Compare"], apart := false }
def EntryOrderSaid : Prop := entryOrderRow.holds Try.pinned (OpenSpec.ofChange entryOrderSpec)

/-- ITS FALSE NEIGHBOUR: 'it returns false'. Refute it at one input. -/
def entryOrderWrong : ChangeSpec := { name := "entryOrder", fn := fun _ => fun
  | [d1, d2, d3, d4, d5] => { results := [.lit (.bool false)], args := [d1, d2, d3, d4, d5] }
  | _ => none }
def EntryOrderWrongFalsely : Prop := entryOrderRow.holds Try.pinned (OpenSpec.ofChange entryOrderWrong)

/- THE SECOND FORM. 'bulk': how many values and letters a reading holds, each counted each time it is reached (what is shared counts as often as it is met; a slice's spare places count too). A statement '..UptoSaid' is the law's where the arguments, and the package variables that the reading takes, are together of bulk at most 1048576: NARROWER than '..Said'. Prove '..Said' where nothing that the law and all that it calls make is longer than what came in: it says more and counts as full. Else prove '..UptoSaid'. A law counts once. -/
mutual
def uptoBulk {H : Type} : DataW H → Nat
  | .lit (.string bytes) => bytes.length + 1
  | .lit _ => 1
  | .nil => 1
  | .ptr d => uptoBulk d + 1
  | .slice elems spare => uptoBulkAll elems + uptoBulkAll spare + 1
  | .agg parts => uptoBulkAll parts + 1
  | .iface _ d => uptoBulk d + 1
  | .map entries => uptoBulkEntries entries + 1
  | .held _ => 1
def uptoBulkAll {H : Type} : List (DataW H) → Nat
  | [] => 0
  | d :: r => uptoBulk d + uptoBulkAll r
def uptoBulkEntries {H : Type} : List (Lit × DataW H) → Nat
  | [] => 0
  | x :: r => uptoBulkEntry x + uptoBulkEntries r
def uptoBulkEntry {H : Type} : Lit × DataW H → Nat
  | (.string bytes, d) => bytes.length + uptoBulk d + 1
  | (_, d) => uptoBulk d + 1
 end
def uptoSmall : (H : Type) → List (DataW H) → Bool := fun _ ds => decide (uptoBulkAll ds ≤ 1048576)
def OpenSpec.upto (s : _root_.Go.ChangeSpec) : _root_.Go.OpenSpec := { _root_.Go.OpenSpec.ofChange s with cond := some uptoSmall }

/-- 'peatbanklaw14.EntryOf', WHERE WHAT IT READS IS OF BULK AT MOST 1048576: true; the input reads as it did. -/
def entryOfUptoRow : OpenClaim := { program := "ytmckngkmlhemoaa", sum := "43554b1987fbe875ee6f460ee0ad1bc25f1230437fc225d7d9179ba005638666", func := "peatbank/peatbanklaw14.EntryOf", spec := "entryOf", inPlace := ["internal/bytealg.Compare"], apart := false, narrowed := true }
def EntryOfUptoSaid : Prop := entryOfUptoRow.holds Try.pinned (OpenSpec.upto entryOfSpec)

/-- 'peatbanklaw14.EntryItem', WHERE WHAT IT READS IS OF BULK AT MOST 1048576: true; the input reads as it did. -/
def entryItemUptoRow : OpenClaim := { program := "ytmckngkmlhemoaa", sum := "43554b1987fbe875ee6f460ee0ad1bc25f1230437fc225d7d9179ba005638666", func := "peatbank/peatbanklaw14.EntryItem", spec := "entryItem", inPlace := ["internal/bytealg.Compare"], apart := false, narrowed := true }
def EntryItemUptoSaid : Prop := entryItemUptoRow.holds Try.pinned (OpenSpec.upto entryItemSpec)

/-- 'peatbanklaw14.EntryCompare', WHERE WHAT IT READS IS OF BULK AT MOST 1048576: true; the input reads as it did. -/
def entryCompareUptoRow : OpenClaim := { program := "ytmckngkmlhemoaa", sum := "43554b1987fbe875ee6f460ee0ad1bc25f1230437fc225d7d9179ba005638666", func := "peatbank/peatbanklaw14.EntryCompare", spec := "entryCompare", inPlace := ["internal/bytealg.Compare"], apart := false, narrowed := true }
def EntryCompareUptoSaid : Prop := entryCompareUptoRow.holds Try.pinned (OpenSpec.upto entryCompareSpec)

/-- 'peatbanklaw14.EntryNumbers', WHERE WHAT IT READS IS OF BULK AT MOST 1048576: true; the input reads as it did. -/
def entryNumbersUptoRow : OpenClaim := { program := "ytmckngkmlhemoaa", sum := "43554b1987fbe875ee6f460ee0ad1bc25f1230437fc225d7d9179ba005638666", func := "peatbank/peatbanklaw14.EntryNumbers", spec := "entryNumbers", inPlace := ["internal/bytealg.Compare"], apart := false, narrowed := true }
def EntryNumbersUptoSaid : Prop := entryNumbersUptoRow.holds Try.pinned (OpenSpec.upto entryNumbersSpec)

/-- 'peatbanklaw14.EntryBack', WHERE WHAT IT READS IS OF BULK AT MOST 1048576: true; the input reads as it did. -/
def entryBackUptoRow : OpenClaim := { program := "ytmckngkmlhemoaa", sum := "43554b1987fbe875ee6f460ee0ad1bc25f1230437fc225d7d9179ba005638666", func := "peatbank/peatbanklaw14.EntryBack", spec := "entryBack", inPlace := ["internal/bytealg.Compare"], apart := false, narrowed := true }
def EntryBackUptoSaid : Prop := entryBackUptoRow.holds Try.pinned (OpenSpec.upto entryBackSpec)

/-- 'peatbanklaw14.EntryOrder', WHERE WHAT IT READS IS OF BULK AT MOST 1048576: true; the input reads as it did. -/
def entryOrderUptoRow : OpenClaim := { program := "ytmckngkmlhemoaa", sum := "43554b1987fbe875ee6f460ee0ad1bc25f1230437fc225d7d9179ba005638666", func := "peatbank/peatbanklaw14.EntryOrder", spec := "entryOrder", inPlace := ["internal/bytealg.Compare"], apart := false, narrowed := true }
def EntryOrderUptoSaid : Prop := entryOrderUptoRow.holds Try.pinned (OpenSpec.upto entryOrderSpec)

end Rows
end Go.Proofs.Ytmckngkmlhemoaa
