/-
  No cell of these rows narrows 'for every input' (looked for: loops, veiled, ifaces, maps, wideKeys, modest, calm, conditions, laid).
  DERIVED. THE GIVEN ROWS OF THIS SEAT. 6 by the template 'for every input the law returns true; each argument reads behind the call as it read before'; 0 by the template 'total and deterministic' (their statements: YtkkjcbakgjabdaaTotals.lean).
  GIVEN WITH THE SEED: the statements are not yours to turn. If you find one false, say at which input.
  Laid BY PROGRAM, IN A SANDBOX (cutbox-rows.mjs): the forced cells as the released guide's own fill.sh prints them over the translation 34a5b63bcf432cb4… (all of the seat's roots in one cut). By AI agents, Wed Nov 11 2026. No macro, syntax, notation, axiom, sorry.
-/
import Derived.Test.YtkkjcbakgjabdaaChecked
import GoSem.Claim
import GoSem.ClaimJoined
import GoSem.ClaimMapViews
import Derived.JoinedTies
import Derived.KernelRfl
namespace Go.Proofs.Ytkkjcbakgjabdaa
/- THE CELL 'sum', in the pinned program and in every row, IS THE sha256 OF THE DUMP (.gsa) THAT YtkkjcbakgjabdaaProg.lean LOADS. Nothing in Lean hashes anything: it is a label: what it is worth is what the hold of that sum in a sandbox is worth. -/
noncomputable def Try.pinned : Pinned := { name := "ytkkjcbakgjabdaa", sum := "34a5b63bcf432cb402249630ecad6a5432b3f344c09ca3f2579459bbf2884245", checked := Try.checked }
namespace Rows
def none {H : Type} : Left H := { results := [], args := [] }

/-- 'peatbanklaw03.BitioParts': WHATEVER THE INPUT: true; the input reads as it did. -/
def bitioPartsSpec : ChangeSpec := { name := "bitioParts", fn := fun _ => fun
  | [d1, d2] => { results := [.lit (.bool true)], args := [d1, d2] }
  | _ => none }
def bitioPartsRow : OpenClaim := { program := "ytkkjcbakgjabdaa", sum := "34a5b63bcf432cb402249630ecad6a5432b3f344c09ca3f2579459bbf2884245", func := "peatbank/peatbanklaw03.BitioParts", spec := "bitioParts", apart := false }
def BitioPartsSaid : Prop := bitioPartsRow.holds Try.pinned (OpenSpec.ofChange bitioPartsSpec)

/-- ITS FALSE NEIGHBOUR: 'it returns false'. Refute it at one input. -/
def bitioPartsWrong : ChangeSpec := { name := "bitioParts", fn := fun _ => fun
  | [d1, d2] => { results := [.lit (.bool false)], args := [d1, d2] }
  | _ => none }
def BitioPartsWrongFalsely : Prop := bitioPartsRow.holds Try.pinned (OpenSpec.ofChange bitioPartsWrong)

/-- 'peatbanklaw03.BitioWrites': WHATEVER THE INPUT: true; the input reads as it did. -/
def bitioWritesSpec : ChangeSpec := { name := "bitioWrites", fn := fun _ => fun
  | [d] => { results := [.lit (.bool true)], args := [d] }
  | _ => none }
def bitioWritesRow : OpenClaim := { program := "ytkkjcbakgjabdaa", sum := "34a5b63bcf432cb402249630ecad6a5432b3f344c09ca3f2579459bbf2884245", func := "peatbank/peatbanklaw03.BitioWrites", spec := "bitioWrites", apart := false }
def BitioWritesSaid : Prop := bitioWritesRow.holds Try.pinned (OpenSpec.ofChange bitioWritesSpec)

/-- ITS FALSE NEIGHBOUR: 'it returns false'. Refute it at one input. -/
def bitioWritesWrong : ChangeSpec := { name := "bitioWrites", fn := fun _ => fun
  | [d] => { results := [.lit (.bool false)], args := [d] }
  | _ => none }
def BitioWritesWrongFalsely : Prop := bitioWritesRow.holds Try.pinned (OpenSpec.ofChange bitioWritesWrong)

/-- 'peatbanklaw03.BitioReads': WHATEVER THE INPUT: true; the input reads as it did. -/
def bitioReadsSpec : ChangeSpec := { name := "bitioReads", fn := fun _ => fun
  | [d1, d2] => { results := [.lit (.bool true)], args := [d1, d2] }
  | _ => none }
def bitioReadsRow : OpenClaim := { program := "ytkkjcbakgjabdaa", sum := "34a5b63bcf432cb402249630ecad6a5432b3f344c09ca3f2579459bbf2884245", func := "peatbank/peatbanklaw03.BitioReads", spec := "bitioReads", apart := false }
def BitioReadsSaid : Prop := bitioReadsRow.holds Try.pinned (OpenSpec.ofChange bitioReadsSpec)

/-- ITS FALSE NEIGHBOUR: 'it returns false'. Refute it at one input. -/
def bitioReadsWrong : ChangeSpec := { name := "bitioReads", fn := fun _ => fun
  | [d1, d2] => { results := [.lit (.bool false)], args := [d1, d2] }
  | _ => none }
def BitioReadsWrongFalsely : Prop := bitioReadsRow.holds Try.pinned (OpenSpec.ofChange bitioReadsWrong)

/-- 'peatbanklaw03.BitioNil': WHATEVER THE INPUT: true; the input reads as it did. -/
def bitioNilSpec : ChangeSpec := { name := "bitioNil", fn := fun _ => fun
  | [d1, d2] => { results := [.lit (.bool true)], args := [d1, d2] }
  | _ => none }
def bitioNilRow : OpenClaim := { program := "ytkkjcbakgjabdaa", sum := "34a5b63bcf432cb402249630ecad6a5432b3f344c09ca3f2579459bbf2884245", func := "peatbank/peatbanklaw03.BitioNil", spec := "bitioNil", apart := false }
def BitioNilSaid : Prop := bitioNilRow.holds Try.pinned (OpenSpec.ofChange bitioNilSpec)

/-- ITS FALSE NEIGHBOUR: 'it returns false'. Refute it at one input. -/
def bitioNilWrong : ChangeSpec := { name := "bitioNil", fn := fun _ => fun
  | [d1, d2] => { results := [.lit (.bool false)], args := [d1, d2] }
  | _ => none }
def BitioNilWrongFalsely : Prop := bitioNilRow.holds Try.pinned (OpenSpec.ofChange bitioNilWrong)

/-- 'peatbanklaw03.BitioNumbers': WHATEVER THE INPUT: true; the input reads as it did. -/
def bitioNumbersSpec : ChangeSpec := { name := "bitioNumbers", fn := fun _ => fun
  | [] => { results := [.lit (.bool true)], args := [] }
  | _ => none }
def bitioNumbersRow : OpenClaim := { program := "ytkkjcbakgjabdaa", sum := "34a5b63bcf432cb402249630ecad6a5432b3f344c09ca3f2579459bbf2884245", func := "peatbank/peatbanklaw03.BitioNumbers", spec := "bitioNumbers", apart := false }
def BitioNumbersSaid : Prop := bitioNumbersRow.holds Try.pinned (OpenSpec.ofChange bitioNumbersSpec)

/-- ITS FALSE NEIGHBOUR: 'it returns false'. Refute it at one input. -/
def bitioNumbersWrong : ChangeSpec := { name := "bitioNumbers", fn := fun _ => fun
  | [] => { results := [.lit (.bool false)], args := [] }
  | _ => none }
def BitioNumbersWrongFalsely : Prop := bitioNumbersRow.holds Try.pinned (OpenSpec.ofChange bitioNumbersWrong)

/-- 'peatbanklaw03.BitioBack': WHATEVER THE INPUT: true; the input reads as it did. -/
def bitioBackSpec : ChangeSpec := { name := "bitioBack", fn := fun _ => fun
  | [d] => { results := [.lit (.bool true)], args := [d] }
  | _ => none }
def bitioBackRow : OpenClaim := { program := "ytkkjcbakgjabdaa", sum := "34a5b63bcf432cb402249630ecad6a5432b3f344c09ca3f2579459bbf2884245", func := "peatbank/peatbanklaw03.BitioBack", spec := "bitioBack", apart := false }
def BitioBackSaid : Prop := bitioBackRow.holds Try.pinned (OpenSpec.ofChange bitioBackSpec)

/-- ITS FALSE NEIGHBOUR: 'it returns false'. Refute it at one input. -/
def bitioBackWrong : ChangeSpec := { name := "bitioBack", fn := fun _ => fun
  | [d] => { results := [.lit (.bool false)], args := [d] }
  | _ => none }
def BitioBackWrongFalsely : Prop := bitioBackRow.holds Try.pinned (OpenSpec.ofChange bitioBackWrong)

/- THE SECOND FORM. 'bulk': how many values and letters a reading holds, each counted each time it is reached (what is shared counts as often as it is met; a slice's spare places count too). A statement '..UptoSaid' is the law's where the arguments, and the package variables that the reading takes, are together of bulk at most 1048576: NARROWER than '..Said'. Prove '..Said' where nothing that the law and all that it calls make is longer than what came in: it says more and counts as full. Else prove '..UptoSaid'. A law counts once. -/
mutual
def uptoBulk {H : Type} : DataW H → Nat
  | .lit (.string bytes) => bytes.length + 1
  | .lit _ => 1
  | .nil => 1
  | .ptr d => uptoBulk d + 1
  | .slice elems spare => uptoBulkAll elems + uptoBulkAll spare + 1
  | .agg parts => uptoBulkAll parts + 1
  | .iface _ d => uptoBulk d + 1
  | .map entries => uptoBulkEntries entries + 1
  | .held _ => 1
def uptoBulkAll {H : Type} : List (DataW H) → Nat
  | [] => 0
  | d :: r => uptoBulk d + uptoBulkAll r
def uptoBulkEntries {H : Type} : List (Lit × DataW H) → Nat
  | [] => 0
  | x :: r => uptoBulkEntry x + uptoBulkEntries r
def uptoBulkEntry {H : Type} : Lit × DataW H → Nat
  | (.string bytes, d) => bytes.length + uptoBulk d + 1
  | (_, d) => uptoBulk d + 1
 end
def uptoSmall : (H : Type) → List (DataW H) → Bool := fun _ ds => decide (uptoBulkAll ds ≤ 1048576)
def OpenSpec.upto (s : _root_.Go.ChangeSpec) : _root_.Go.OpenSpec := { _root_.Go.OpenSpec.ofChange s with cond := some uptoSmall }

/-- 'peatbanklaw03.BitioParts', WHERE WHAT IT READS IS OF BULK AT MOST 1048576: true; the input reads as it did. -/
def bitioPartsUptoRow : OpenClaim := { program := "ytkkjcbakgjabdaa", sum := "34a5b63bcf432cb402249630ecad6a5432b3f344c09ca3f2579459bbf2884245", func := "peatbank/peatbanklaw03.BitioParts", spec := "bitioParts", apart := false, narrowed := true }
def BitioPartsUptoSaid : Prop := bitioPartsUptoRow.holds Try.pinned (OpenSpec.upto bitioPartsSpec)

/-- 'peatbanklaw03.BitioWrites', WHERE WHAT IT READS IS OF BULK AT MOST 1048576: true; the input reads as it did. -/
def bitioWritesUptoRow : OpenClaim := { program := "ytkkjcbakgjabdaa", sum := "34a5b63bcf432cb402249630ecad6a5432b3f344c09ca3f2579459bbf2884245", func := "peatbank/peatbanklaw03.BitioWrites", spec := "bitioWrites", apart := false, narrowed := true }
def BitioWritesUptoSaid : Prop := bitioWritesUptoRow.holds Try.pinned (OpenSpec.upto bitioWritesSpec)

/-- 'peatbanklaw03.BitioReads', WHERE WHAT IT READS IS OF BULK AT MOST 1048576: true; the input reads as it did. -/
def bitioReadsUptoRow : OpenClaim := { program := "ytkkjcbakgjabdaa", sum := "34a5b63bcf432cb402249630ecad6a5432b3f344c09ca3f2579459bbf2884245", func := "peatbank/peatbanklaw03.BitioReads", spec := "bitioReads", apart := false, narrowed := true }
def BitioReadsUptoSaid : Prop := bitioReadsUptoRow.holds Try.pinned (OpenSpec.upto bitioReadsSpec)

/-- 'peatbanklaw03.BitioNil', WHERE WHAT IT READS IS OF BULK AT MOST 1048576: true; the input reads as it did. -/
def bitioNilUptoRow : OpenClaim := { program := "ytkkjcbakgjabdaa", sum := "34a5b63bcf432cb402249630ecad6a5432b3f344c09ca3f2579459bbf2884245", func := "peatbank/peatbanklaw03.BitioNil", spec := "bitioNil", apart := false, narrowed := true }
def BitioNilUptoSaid : Prop := bitioNilUptoRow.holds Try.pinned (OpenSpec.upto bitioNilSpec)

/-- 'peatbanklaw03.BitioNumbers', WHERE WHAT IT READS IS OF BULK AT MOST 1048576: true; the input reads as it did. -/
def bitioNumbersUptoRow : OpenClaim := { program := "ytkkjcbakgjabdaa", sum := "34a5b63bcf432cb402249630ecad6a5432b3f344c09ca3f2579459bbf2884245", func := "peatbank/peatbanklaw03.BitioNumbers", spec := "bitioNumbers", apart := false, narrowed := true }
def BitioNumbersUptoSaid : Prop := bitioNumbersUptoRow.holds Try.pinned (OpenSpec.upto bitioNumbersSpec)

/-- 'peatbanklaw03.BitioBack', WHERE WHAT IT READS IS OF BULK AT MOST 1048576: true; the input reads as it did. -/
def bitioBackUptoRow : OpenClaim := { program := "ytkkjcbakgjabdaa", sum := "34a5b63bcf432cb402249630ecad6a5432b3f344c09ca3f2579459bbf2884245", func := "peatbank/peatbanklaw03.BitioBack", spec := "bitioBack", apart := false, narrowed := true }
def BitioBackUptoSaid : Prop := bitioBackUptoRow.holds Try.pinned (OpenSpec.upto bitioBackSpec)

end Rows
end Go.Proofs.Ytkkjcbakgjabdaa
