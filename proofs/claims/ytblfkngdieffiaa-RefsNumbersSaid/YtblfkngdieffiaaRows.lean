/-
  No cell of these rows narrows 'for every input' (looked for: loops, veiled, ifaces, maps, wideKeys, modest, calm, conditions, laid).
  DERIVED. THE GIVEN ROWS OF THIS SEAT. 5 by the template 'for every input the law returns true; each argument reads behind the call as it read before'; 0 by the template 'total and deterministic' (their statements: YtblfkngdieffiaaTotals.lean).
  GIVEN WITH THE SEED: the statements are not yours to turn. If you find one false, say at which input.
  Laid BY PROGRAM, IN A SANDBOX (cutbox-rows.mjs): the forced cells as the released guide's own fill.sh prints them over the translation bc5d0a70a011168a… (all of the seat's roots in one cut). By AI agents, Wed Nov 11 2026. No macro, syntax, notation, axiom, sorry.
-/
import Derived.Test.YtblfkngdieffiaaChecked
import GoSem.Claim
import GoSem.ClaimJoined
import GoSem.ClaimMapViews
import Derived.JoinedTies
import Derived.KernelRfl
namespace Go.Proofs.Ytblfkngdieffiaa
/- THE CELL 'sum', in the pinned program and in every row, IS THE sha256 OF THE DUMP (.gsa) THAT YtblfkngdieffiaaProg.lean LOADS. Nothing in Lean hashes anything: it is a label: what it is worth is what the hold of that sum in a sandbox is worth. -/
noncomputable def Try.pinned : Pinned := { name := "ytblfkngdieffiaa", sum := "bc5d0a70a011168a0178fadebf9e80f1a8bc00b6c3fc91202465391c6ae146ea", checked := Try.checked }
namespace Rows
def none {H : Type} : Left H := { results := [], args := [] }

/-- 'peatbanklaw24.RefsCount': WHATEVER THE INPUT: true; the input reads as it did. -/
def refsCountSpec : ChangeSpec := { name := "refsCount", fn := fun _ => fun
  | [d] => { results := [.lit (.bool true)], args := [d] }
  | _ => none }
def refsCountRow : OpenClaim := { program := "ytblfkngdieffiaa", sum := "bc5d0a70a011168a0178fadebf9e80f1a8bc00b6c3fc91202465391c6ae146ea", func := "peatbank/peatbanklaw24.RefsCount", spec := "refsCount", inPlace := ["internal/bytealg.Compare"], unfollowed := true, recurses := true, plainKeys := false, apart := false }
def RefsCountSaid : Prop := refsCountRow.holds Try.pinned (OpenSpec.ofChange refsCountSpec)

/-- ITS FALSE NEIGHBOUR: 'it returns false'. Refute it at one input. -/
def refsCountWrong : ChangeSpec := { name := "refsCount", fn := fun _ => fun
  | [d] => { results := [.lit (.bool false)], args := [d] }
  | _ => none }
def RefsCountWrongFalsely : Prop := refsCountRow.holds Try.pinned (OpenSpec.ofChange refsCountWrong)

/-- 'peatbanklaw24.RefsDelta': WHATEVER THE INPUT: true; the input reads as it did. -/
def refsDeltaSpec : ChangeSpec := { name := "refsDelta", fn := fun _ => fun
  | [d1, d2] => { results := [.lit (.bool true)], args := [d1, d2] }
  | _ => none }
def refsDeltaRow : OpenClaim := { program := "ytblfkngdieffiaa", sum := "bc5d0a70a011168a0178fadebf9e80f1a8bc00b6c3fc91202465391c6ae146ea", func := "peatbank/peatbanklaw24.RefsDelta", spec := "refsDelta", inPlace := ["internal/bytealg.Compare"], unfollowed := true, recurses := true, plainKeys := false, apart := false }
def RefsDeltaSaid : Prop := refsDeltaRow.holds Try.pinned (OpenSpec.ofChange refsDeltaSpec)

/-- ITS FALSE NEIGHBOUR: 'it returns false'. Refute it at one input. -/
def refsDeltaWrong : ChangeSpec := { name := "refsDelta", fn := fun _ => fun
  | [d1, d2] => { results := [.lit (.bool false)], args := [d1, d2] }
  | _ => none }
def RefsDeltaWrongFalsely : Prop := refsDeltaRow.holds Try.pinned (OpenSpec.ofChange refsDeltaWrong)

/-- 'peatbanklaw24.RefsNumbers': WHATEVER THE INPUT: true; the input reads as it did. -/
def refsNumbersSpec : ChangeSpec := { name := "refsNumbers", fn := fun _ => fun
  | [] => { results := [.lit (.bool true)], args := [] }
  | _ => none }
def refsNumbersRow : OpenClaim := { program := "ytblfkngdieffiaa", sum := "bc5d0a70a011168a0178fadebf9e80f1a8bc00b6c3fc91202465391c6ae146ea", func := "peatbank/peatbanklaw24.RefsNumbers", spec := "refsNumbers", inPlace := ["internal/bytealg.Compare"], unfollowed := true, recurses := true, plainKeys := false, apart := false }
def RefsNumbersSaid : Prop := refsNumbersRow.holds Try.pinned (OpenSpec.ofChange refsNumbersSpec)

/-- ITS FALSE NEIGHBOUR: 'it returns false'. Refute it at one input. -/
def refsNumbersWrong : ChangeSpec := { name := "refsNumbers", fn := fun _ => fun
  | [] => { results := [.lit (.bool false)], args := [] }
  | _ => none }
def RefsNumbersWrongFalsely : Prop := refsNumbersRow.holds Try.pinned (OpenSpec.ofChange refsNumbersWrong)

/-- 'peatbanklaw24.RefsSums': WHATEVER THE INPUT: true; the input reads as it did. -/
def refsSumsSpec : ChangeSpec := { name := "refsSums", fn := fun _ => fun
  | [d1, d2] => { results := [.lit (.bool true)], args := [d1, d2] }
  | _ => none }
def refsSumsRow : OpenClaim := { program := "ytblfkngdieffiaa", sum := "bc5d0a70a011168a0178fadebf9e80f1a8bc00b6c3fc91202465391c6ae146ea", func := "peatbank/peatbanklaw24.RefsSums", spec := "refsSums", inPlace := ["internal/bytealg.Compare"], unfollowed := true, recurses := true, plainKeys := false, apart := false }
def RefsSumsSaid : Prop := refsSumsRow.holds Try.pinned (OpenSpec.ofChange refsSumsSpec)

/-- ITS FALSE NEIGHBOUR: 'it returns false'. Refute it at one input. -/
def refsSumsWrong : ChangeSpec := { name := "refsSums", fn := fun _ => fun
  | [d1, d2] => { results := [.lit (.bool false)], args := [d1, d2] }
  | _ => none }
def RefsSumsWrongFalsely : Prop := refsSumsRow.holds Try.pinned (OpenSpec.ofChange refsSumsWrong)

/-- 'peatbanklaw24.RefsTurned': WHATEVER THE INPUT: true; the input reads as it did. -/
def refsTurnedSpec : ChangeSpec := { name := "refsTurned", fn := fun _ => fun
  | [d1, d2, d3] => { results := [.lit (.bool true)], args := [d1, d2, d3] }
  | _ => none }
def refsTurnedRow : OpenClaim := { program := "ytblfkngdieffiaa", sum := "bc5d0a70a011168a0178fadebf9e80f1a8bc00b6c3fc91202465391c6ae146ea", func := "peatbank/peatbanklaw24.RefsTurned", spec := "refsTurned", inPlace := ["internal/bytealg.Compare"], unfollowed := true, recurses := true, plainKeys := false, apart := false }
def RefsTurnedSaid : Prop := refsTurnedRow.holds Try.pinned (OpenSpec.ofChange refsTurnedSpec)

/-- ITS FALSE NEIGHBOUR: 'it returns false'. Refute it at one input. -/
def refsTurnedWrong : ChangeSpec := { name := "refsTurned", fn := fun _ => fun
  | [d1, d2, d3] => { results := [.lit (.bool false)], args := [d1, d2, d3] }
  | _ => none }
def RefsTurnedWrongFalsely : Prop := refsTurnedRow.holds Try.pinned (OpenSpec.ofChange refsTurnedWrong)

/- THE SECOND FORM. 'bulk': how many values and letters a reading holds, each counted each time it is reached (what is shared counts as often as it is met; a slice's spare places count too). A statement '..UptoSaid' is the law's where the arguments, and the package variables that the reading takes, are together of bulk at most 1048576: NARROWER than '..Said'. Prove '..Said' where nothing that the law and all that it calls make is longer than what came in: it says more and counts as full. Else prove '..UptoSaid'. A law counts once. -/
mutual
def uptoBulk {H : Type} : DataW H → Nat
  | .lit (.string bytes) => bytes.length + 1
  | .lit _ => 1
  | .nil => 1
  | .ptr d => uptoBulk d + 1
  | .slice elems spare => uptoBulkAll elems + uptoBulkAll spare + 1
  | .agg parts => uptoBulkAll parts + 1
  | .iface _ d => uptoBulk d + 1
  | .map entries => uptoBulkEntries entries + 1
  | .held _ => 1
def uptoBulkAll {H : Type} : List (DataW H) → Nat
  | [] => 0
  | d :: r => uptoBulk d + uptoBulkAll r
def uptoBulkEntries {H : Type} : List (Lit × DataW H) → Nat
  | [] => 0
  | x :: r => uptoBulkEntry x + uptoBulkEntries r
def uptoBulkEntry {H : Type} : Lit × DataW H → Nat
  | (.string bytes, d) => bytes.length + uptoBulk d + 1
  | (_, d) => uptoBulk d + 1
 end
def uptoSmall : (H : Type) → List (DataW H) → Bool := fun _ ds => decide (uptoBulkAll ds ≤ 1048576)
def OpenSpec.upto (s : _root_.Go.ChangeSpec) : _root_.Go.OpenSpec := { _root_.Go.OpenSpec.ofChange s with cond := some uptoSmall }

/-- 'peatbanklaw24.RefsCount', WHERE WHAT IT READS IS OF BULK AT MOST 1048576: true; the input reads as it did. -/
def refsCountUptoRow : OpenClaim := { program := "ytblfkngdieffiaa", sum := "bc5d0a70a011168a0178fadebf9e80f1a8bc00b6c3fc91202465391c6ae146ea", func := "peatbank/peatbanklaw24.RefsCount", spec := "refsCount", inPlace := ["internal/bytealg.Compare"], unfollowed := true, recurses := true, plainKeys := false, apart := false, narrowed := true }
def RefsCountUptoSaid : Prop := refsCountUptoRow.holds Try.pinned (OpenSpec.upto refsCountSpec)

/-- 'peatbanklaw24.RefsDelta', WHERE WHAT IT READS IS OF BULK AT MOST 1048576: true; the input reads as it did. -/
def refsDeltaUptoRow : OpenClaim := { program := "ytblfkngdieffiaa", sum := "bc5d0a70a011168a0178fadebf9e80f1a8bc00b6c3fc91202465391c6ae146ea", func := "peatbank/peatbanklaw24.RefsDelta", spec := "refsDelta", inPlace := ["internal/bytealg.Compare"], unfollowed := true, recurses := true, plainKeys := false, apart := false, narrowed := true }
def RefsDeltaUptoSaid : Prop := refsDeltaUptoRow.holds Try.pinned (OpenSpec.upto refsDeltaSpec)

/-- 'peatbanklaw24.RefsNumbers', WHERE WHAT IT READS IS OF BULK AT MOST 1048576: true; the input reads as it did. -/
def refsNumbersUptoRow : OpenClaim := { program := "ytblfkngdieffiaa", sum := "bc5d0a70a011168a0178fadebf9e80f1a8bc00b6c3fc91202465391c6ae146ea", func := "peatbank/peatbanklaw24.RefsNumbers", spec := "refsNumbers", inPlace := ["internal/bytealg.Compare"], unfollowed := true, recurses := true, plainKeys := false, apart := false, narrowed := true }
def RefsNumbersUptoSaid : Prop := refsNumbersUptoRow.holds Try.pinned (OpenSpec.upto refsNumbersSpec)

/-- 'peatbanklaw24.RefsSums', WHERE WHAT IT READS IS OF BULK AT MOST 1048576: true; the input reads as it did. -/
def refsSumsUptoRow : OpenClaim := { program := "ytblfkngdieffiaa", sum := "bc5d0a70a011168a0178fadebf9e80f1a8bc00b6c3fc91202465391c6ae146ea", func := "peatbank/peatbanklaw24.RefsSums", spec := "refsSums", inPlace := ["internal/bytealg.Compare"], unfollowed := true, recurses := true, plainKeys := false, apart := false, narrowed := true }
def RefsSumsUptoSaid : Prop := refsSumsUptoRow.holds Try.pinned (OpenSpec.upto refsSumsSpec)

/-- 'peatbanklaw24.RefsTurned', WHERE WHAT IT READS IS OF BULK AT MOST 1048576: true; the input reads as it did. -/
def refsTurnedUptoRow : OpenClaim := { program := "ytblfkngdieffiaa", sum := "bc5d0a70a011168a0178fadebf9e80f1a8bc00b6c3fc91202465391c6ae146ea", func := "peatbank/peatbanklaw24.RefsTurned", spec := "refsTurned", inPlace := ["internal/bytealg.Compare"], unfollowed := true, recurses := true, plainKeys := false, apart := false, narrowed := true }
def RefsTurnedUptoSaid : Prop := refsTurnedUptoRow.holds Try.pinned (OpenSpec.upto refsTurnedSpec)

end Rows
end Go.Proofs.Ytblfkngdieffiaa
