/-
  No cell of these rows narrows 'for every input' (looked for: loops, veiled, ifaces, maps, wideKeys, modest, calm, conditions, laid).
  DERIVED. THE GIVEN ROWS OF THIS SEAT. 5 by the template 'for every input the law returns true; each argument reads behind the call as it read before'; 0 by the template 'total and deterministic' (their statements: YtbaibkckigdndaaTotals.lean).
  GIVEN WITH THE SEED: the statements are not yours to turn. If you find one false, say at which input.
  Laid BY PROGRAM, IN A SANDBOX (cutbox-rows.mjs): the forced cells as the released guide's own fill.sh prints them over the translation c8a4e2b6b196bc90… (all of the seat's roots in one cut). By AI agents, Wed Nov 11 2026. No macro, syntax, notation, axiom, sorry.
-/
import Derived.Test.YtbaibkckigdndaaChecked
import GoSem.Claim
import GoSem.ClaimJoined
import GoSem.ClaimMapViews
import Derived.JoinedTies
import Derived.KernelRfl
namespace Go.Proofs.Ytbaibkckigdndaa
/- THE CELL 'sum', in the pinned program and in every row, IS THE sha256 OF THE DUMP (.gsa) THAT YtbaibkckigdndaaProg.lean LOADS. Nothing in Lean hashes anything: it is a label: what it is worth is what the hold of that sum in a sandbox is worth. -/
noncomputable def Try.pinned : Pinned := { name := "ytbaibkckigdndaa", sum := "c8a4e2b6b196bc90cb8f2ce80439953c397b9403ee2b68c84dbe3ad1fa5d7fc2", checked := Try.checked }
namespace Rows
def none {H : Type} : Left H := { results := [], args := [] }

/-- 'peatbanklaw05.LzExpands': WHATEVER THE INPUT: true; the input reads as it did. -/
def lzExpandsSpec : ChangeSpec := { name := "lzExpands", fn := fun _ => fun
  | [d] => { results := [.lit (.bool true)], args := [d] }
  | _ => none }
def lzExpandsRow : OpenClaim := { program := "ytbaibkckigdndaa", sum := "c8a4e2b6b196bc90cb8f2ce80439953c397b9403ee2b68c84dbe3ad1fa5d7fc2", func := "peatbank/peatbanklaw05.LzExpands", spec := "lzExpands", unfollowed := true, recurses := true, plainKeys := false, apart := false }
def LzExpandsSaid : Prop := lzExpandsRow.holds Try.pinned (OpenSpec.ofChange lzExpandsSpec)

/-- ITS FALSE NEIGHBOUR: 'it returns false'. Refute it at one input. -/
def lzExpandsWrong : ChangeSpec := { name := "lzExpands", fn := fun _ => fun
  | [d] => { results := [.lit (.bool false)], args := [d] }
  | _ => none }
def LzExpandsWrongFalsely : Prop := lzExpandsRow.holds Try.pinned (OpenSpec.ofChange lzExpandsWrong)

/-- 'peatbanklaw05.LzNumbers': WHATEVER THE INPUT: true; the input reads as it did. -/
def lzNumbersSpec : ChangeSpec := { name := "lzNumbers", fn := fun _ => fun
  | [] => { results := [.lit (.bool true)], args := [] }
  | _ => none }
def lzNumbersRow : OpenClaim := { program := "ytbaibkckigdndaa", sum := "c8a4e2b6b196bc90cb8f2ce80439953c397b9403ee2b68c84dbe3ad1fa5d7fc2", func := "peatbank/peatbanklaw05.LzNumbers", spec := "lzNumbers", unfollowed := true, recurses := true, plainKeys := false, apart := false }
def LzNumbersSaid : Prop := lzNumbersRow.holds Try.pinned (OpenSpec.ofChange lzNumbersSpec)

/-- ITS FALSE NEIGHBOUR: 'it returns false'. Refute it at one input. -/
def lzNumbersWrong : ChangeSpec := { name := "lzNumbers", fn := fun _ => fun
  | [] => { results := [.lit (.bool false)], args := [] }
  | _ => none }
def LzNumbersWrongFalsely : Prop := lzNumbersRow.holds Try.pinned (OpenSpec.ofChange lzNumbersWrong)

/-- 'peatbanklaw05.LzBack': WHATEVER THE INPUT: true; the input reads as it did. -/
def lzBackSpec : ChangeSpec := { name := "lzBack", fn := fun _ => fun
  | [d] => { results := [.lit (.bool true)], args := [d] }
  | _ => none }
def lzBackRow : OpenClaim := { program := "ytbaibkckigdndaa", sum := "c8a4e2b6b196bc90cb8f2ce80439953c397b9403ee2b68c84dbe3ad1fa5d7fc2", func := "peatbank/peatbanklaw05.LzBack", spec := "lzBack", unfollowed := true, recurses := true, plainKeys := false, apart := false }
def LzBackSaid : Prop := lzBackRow.holds Try.pinned (OpenSpec.ofChange lzBackSpec)

/-- ITS FALSE NEIGHBOUR: 'it returns false'. Refute it at one input. -/
def lzBackWrong : ChangeSpec := { name := "lzBack", fn := fun _ => fun
  | [d] => { results := [.lit (.bool false)], args := [d] }
  | _ => none }
def LzBackWrongFalsely : Prop := lzBackRow.holds Try.pinned (OpenSpec.ofChange lzBackWrong)

/-- 'peatbanklaw05.LzRuns': WHATEVER THE INPUT: true; the input reads as it did. -/
def lzRunsSpec : ChangeSpec := { name := "lzRuns", fn := fun _ => fun
  | [d1, d2] => { results := [.lit (.bool true)], args := [d1, d2] }
  | _ => none }
def lzRunsRow : OpenClaim := { program := "ytbaibkckigdndaa", sum := "c8a4e2b6b196bc90cb8f2ce80439953c397b9403ee2b68c84dbe3ad1fa5d7fc2", func := "peatbank/peatbanklaw05.LzRuns", spec := "lzRuns", unfollowed := true, recurses := true, plainKeys := false, apart := false }
def LzRunsSaid : Prop := lzRunsRow.holds Try.pinned (OpenSpec.ofChange lzRunsSpec)

/-- ITS FALSE NEIGHBOUR: 'it returns false'. Refute it at one input. -/
def lzRunsWrong : ChangeSpec := { name := "lzRuns", fn := fun _ => fun
  | [d1, d2] => { results := [.lit (.bool false)], args := [d1, d2] }
  | _ => none }
def LzRunsWrongFalsely : Prop := lzRunsRow.holds Try.pinned (OpenSpec.ofChange lzRunsWrong)

/-- 'peatbanklaw05.LzRows': WHATEVER THE INPUT: true; the input reads as it did. -/
def lzRowsSpec : ChangeSpec := { name := "lzRows", fn := fun _ => fun
  | [d1, d2] => { results := [.lit (.bool true)], args := [d1, d2] }
  | _ => none }
def lzRowsRow : OpenClaim := { program := "ytbaibkckigdndaa", sum := "c8a4e2b6b196bc90cb8f2ce80439953c397b9403ee2b68c84dbe3ad1fa5d7fc2", func := "peatbank/peatbanklaw05.LzRows", spec := "lzRows", unfollowed := true, recurses := true, plainKeys := false, apart := false }
def LzRowsSaid : Prop := lzRowsRow.holds Try.pinned (OpenSpec.ofChange lzRowsSpec)

/-- ITS FALSE NEIGHBOUR: 'it returns false'. Refute it at one input. -/
def lzRowsWrong : ChangeSpec := { name := "lzRows", fn := fun _ => fun
  | [d1, d2] => { results := [.lit (.bool false)], args := [d1, d2] }
  | _ => none }
def LzRowsWrongFalsely : Prop := lzRowsRow.holds Try.pinned (OpenSpec.ofChange lzRowsWrong)

/- THE SECOND FORM. 'bulk': how many values and letters a reading holds, each counted each time it is reached (what is shared counts as often as it is met; a slice's spare places count too). A statement '..UptoSaid' is the law's where the arguments, and the package variables that the reading takes, are together of bulk at most 1048576: NARROWER than '..Said'. Prove '..Said' where nothing that the law and all that it calls make is longer than what came in: it says more and counts as full. Else prove '..UptoSaid'. A law counts once. -/
mutual
def uptoBulk {H : Type} : DataW H → Nat
  | .lit (.string bytes) => bytes.length + 1
  | .lit _ => 1
  | .nil => 1
  | .ptr d => uptoBulk d + 1
  | .slice elems spare => uptoBulkAll elems + uptoBulkAll spare + 1
  | .agg parts => uptoBulkAll parts + 1
  | .iface _ d => uptoBulk d + 1
  | .map entries => uptoBulkEntries entries + 1
  | .held _ => 1
def uptoBulkAll {H : Type} : List (DataW H) → Nat
  | [] => 0
  | d :: r => uptoBulk d + uptoBulkAll r
def uptoBulkEntries {H : Type} : List (Lit × DataW H) → Nat
  | [] => 0
  | x :: r => uptoBulkEntry x + uptoBulkEntries r
def uptoBulkEntry {H : Type} : Lit × DataW H → Nat
  | (.string bytes, d) => bytes.length + uptoBulk d + 1
  | (_, d) => uptoBulk d + 1
 end
def uptoSmall : (H : Type) → List (DataW H) → Bool := fun _ ds => decide (uptoBulkAll ds ≤ 1048576)
def OpenSpec.upto (s : _root_.Go.ChangeSpec) : _root_.Go.OpenSpec := { _root_.Go.OpenSpec.ofChange s with cond := some uptoSmall }

/-- 'peatbanklaw05.LzExpands', WHERE WHAT IT READS IS OF BULK AT MOST 1048576: true; the input reads as it did. -/
def lzExpandsUptoRow : OpenClaim := { program := "ytbaibkckigdndaa", sum := "c8a4e2b6b196bc90cb8f2ce80439953c397b9403ee2b68c84dbe3ad1fa5d7fc2", func := "peatbank/peatbanklaw05.LzExpands", spec := "lzExpands", unfollowed := true, recurses := true, plainKeys := false, apart := false, narrowed := true }
def LzExpandsUptoSaid : Prop := lzExpandsUptoRow.holds Try.pinned (OpenSpec.upto lzExpandsSpec)

/-- 'peatbanklaw05.LzNumbers', WHERE WHAT IT READS IS OF BULK AT MOST 1048576: true; the input reads as it did. -/
def lzNumbersUptoRow : OpenClaim := { program := "ytbaibkckigdndaa", sum := "c8a4e2b6b196bc90cb8f2ce80439953c397b9403ee2b68c84dbe3ad1fa5d7fc2", func := "peatbank/peatbanklaw05.LzNumbers", spec := "lzNumbers", unfollowed := true, recurses := true, plainKeys := false, apart := false, narrowed := true }
def LzNumbersUptoSaid : Prop := lzNumbersUptoRow.holds Try.pinned (OpenSpec.upto lzNumbersSpec)

/-- 'peatbanklaw05.LzBack', WHERE WHAT IT READS IS OF BULK AT MOST 1048576: true; the input reads as it did. -/
def lzBackUptoRow : OpenClaim := { program := "ytbaibkckigdndaa", sum := "c8a4e2b6b196bc90cb8f2ce80439953c397b9403ee2b68c84dbe3ad1fa5d7fc2", func := "peatbank/peatbanklaw05.LzBack", spec := "lzBack", unfollowed := true, recurses := true, plainKeys := false, apart := false, narrowed := true }
def LzBackUptoSaid : Prop := lzBackUptoRow.holds Try.pinned (OpenSpec.upto lzBackSpec)

/-- 'peatbanklaw05.LzRuns', WHERE WHAT IT READS IS OF BULK AT MOST 1048576: true; the input reads as it did. -/
def lzRunsUptoRow : OpenClaim := { program := "ytbaibkckigdndaa", sum := "c8a4e2b6b196bc90cb8f2ce80439953c397b9403ee2b68c84dbe3ad1fa5d7fc2", func := "peatbank/peatbanklaw05.LzRuns", spec := "lzRuns", unfollowed := true, recurses := true, plainKeys := false, apart := false, narrowed := true }
def LzRunsUptoSaid : Prop := lzRunsUptoRow.holds Try.pinned (OpenSpec.upto lzRunsSpec)

/-- 'peatbanklaw05.LzRows', WHERE WHAT IT READS IS OF BULK AT MOST 1048576: true; the input reads as it did. -/
def lzRowsUptoRow : OpenClaim := { program := "ytbaibkckigdndaa", sum := "c8a4e2b6b196bc90cb8f2ce80439953c397b9403ee2b68c84dbe3ad1fa5d7fc2", func := "peatbank/peatbanklaw05.LzRows", spec := "lzRows", unfollowed := true, recurses := true, plainKeys := false, apart := false, narrowed := true }
def LzRowsUptoSaid : Prop := lzRowsUptoRow.holds Try.pinned (OpenSpec.upto lzRowsSpec)

end Rows
end Go.Proofs.Ytbaibkckigdndaa
