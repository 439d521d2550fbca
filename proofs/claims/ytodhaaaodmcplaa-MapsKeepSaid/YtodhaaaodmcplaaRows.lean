/-
  No cell of these rows narrows 'for every input' (looked for: loops, veiled, ifaces, maps, wideKeys, modest, calm, conditions, laid).
  DERIVED. THE GIVEN ROWS OF THIS SEAT. 3 by the template 'for every input the law returns true; each argument reads behind the call as it read before'; 0 by the template 'total and deterministic' (their statements: YtodhaaaodmcplaaTotals.lean).
  GIVEN WITH THE SEED: the statements are not yours to turn. If you find one false, say at which input.
  Laid BY PROGRAM, IN A SANDBOX (cutbox-rows.mjs): the forced cells as the released guide's own fill.sh prints them over the translation 0870d9671aa1557a… (all of the seat's roots in one cut). By AI agents, Wed Nov 11 2026. No macro, syntax, notation, axiom, sorry.
-/
import Derived.Test.YtodhaaaodmcplaaChecked
import GoSem.Claim
import GoSem.ClaimJoined
import GoSem.ClaimMapViews
import Derived.JoinedTies
import Derived.KernelRfl
namespace Go.Proofs.Ytodhaaaodmcplaa
/- THE CELL 'sum', in the pinned program and in every row, IS THE sha256 OF THE DUMP (.gsa) THAT YtodhaaaodmcplaaProg.lean LOADS. Nothing in Lean hashes anything: it is a label: what it is worth is what the hold of that sum in a sandbox is worth. -/
noncomputable def Try.pinned : Pinned := { name := "ytodhaaaodmcplaa", sum := "0870d9671aa1557a4c18245869c2d86839f83a17ce4841da2ff7f1a48f0a27e0", checked := Try.checked }
namespace Rows
def none {H : Type} : Left H := { results := [], args := [] }

/-- 'peatbanklaw23.MapsNil': WHATEVER THE INPUT: true; the input reads as it did. -/
def mapsNilSpec : ChangeSpec := { name := "mapsNil", fn := fun _ => fun
  | [d] => { results := [.lit (.bool true)], args := [d] }
  | _ => none }
def mapsNilRow : OpenClaim := { program := "ytodhaaaodmcplaa", sum := "0870d9671aa1557a4c18245869c2d86839f83a17ce4841da2ff7f1a48f0a27e0", func := "peatbank/peatbanklaw23.MapsNil", spec := "mapsNil", unfollowed := true, recurses := true, apart := false }
def MapsNilSaid : Prop := mapsNilRow.holds Try.pinned (OpenSpec.ofChange mapsNilSpec)

/-- ITS FALSE NEIGHBOUR: 'it returns false'. Refute it at one input. -/
def mapsNilWrong : ChangeSpec := { name := "mapsNil", fn := fun _ => fun
  | [d] => { results := [.lit (.bool false)], args := [d] }
  | _ => none }
def MapsNilWrongFalsely : Prop := mapsNilRow.holds Try.pinned (OpenSpec.ofChange mapsNilWrong)

/-- 'peatbanklaw23.MapsKeep': WHATEVER THE INPUT: true; the input reads as it did. -/
def mapsKeepSpec : ChangeSpec := { name := "mapsKeep", fn := fun _ => fun
  | [d1, d2, d3] => { results := [.lit (.bool true)], args := [d1, d2, d3] }
  | _ => none }
def mapsKeepRow : OpenClaim := { program := "ytodhaaaodmcplaa", sum := "0870d9671aa1557a4c18245869c2d86839f83a17ce4841da2ff7f1a48f0a27e0", func := "peatbank/peatbanklaw23.MapsKeep", spec := "mapsKeep", unfollowed := true, recurses := true, apart := false }
def MapsKeepSaid : Prop := mapsKeepRow.holds Try.pinned (OpenSpec.ofChange mapsKeepSpec)

/-- ITS FALSE NEIGHBOUR: 'it returns false'. Refute it at one input. -/
def mapsKeepWrong : ChangeSpec := { name := "mapsKeep", fn := fun _ => fun
  | [d1, d2, d3] => { results := [.lit (.bool false)], args := [d1, d2, d3] }
  | _ => none }
def MapsKeepWrongFalsely : Prop := mapsKeepRow.holds Try.pinned (OpenSpec.ofChange mapsKeepWrong)

/-- 'peatbanklaw23.MapsClear': WHATEVER THE INPUT: true; the input reads as it did. -/
def mapsClearSpec : ChangeSpec := { name := "mapsClear", fn := fun _ => fun
  | [d1, d2, d3, d4] => { results := [.lit (.bool true)], args := [d1, d2, d3, d4] }
  | _ => none }
def mapsClearRow : OpenClaim := { program := "ytodhaaaodmcplaa", sum := "0870d9671aa1557a4c18245869c2d86839f83a17ce4841da2ff7f1a48f0a27e0", func := "peatbank/peatbanklaw23.MapsClear", spec := "mapsClear", unfollowed := true, recurses := true, apart := false }
def MapsClearSaid : Prop := mapsClearRow.holds Try.pinned (OpenSpec.ofChange mapsClearSpec)

/-- ITS FALSE NEIGHBOUR: 'it returns false'. Refute it at one input. -/
def mapsClearWrong : ChangeSpec := { name := "mapsClear", fn := fun _ => fun
  | [d1, d2, d3, d4] => { results := [.lit (.bool false)], args := [d1, d2, d3, d4] }
  | _ => none }
def MapsClearWrongFalsely : Prop := mapsClearRow.holds Try.pinned (OpenSpec.ofChange mapsClearWrong)

/- THE SECOND FORM. 'bulk': how many values and letters a reading holds, each counted each time it is reached (what is shared counts as often as it is met; a slice's spare places count too). A statement '..UptoSaid' is the law's where the arguments, and the package variables that the reading takes, are together of bulk at most 1048576: NARROWER than '..Said'. Prove '..Said' where nothing that the law and all that it calls make is longer than what came in: it says more and counts as full. Else prove '..UptoSaid'. A law counts once. -/
mutual
def uptoBulk {H : Type} : DataW H → Nat
  | .lit (.string bytes) => bytes.length + 1
  | .lit _ => 1
  | .nil => 1
  | .ptr d => uptoBulk d + 1
  | .slice elems spare => uptoBulkAll elems + uptoBulkAll spare + 1
  | .agg parts => uptoBulkAll parts + 1
  | .iface _ d => uptoBulk d + 1
  | .map entries => uptoBulkEntries entries + 1
  | .held _ => 1
def uptoBulkAll {H : Type} : List (DataW H) → Nat
  | [] => 0
  | d :: r => uptoBulk d + uptoBulkAll r
def uptoBulkEntries {H : Type} : List (Lit × DataW H) → Nat
  | [] => 0
  | x :: r => uptoBulkEntry x + uptoBulkEntries r
def uptoBulkEntry {H : Type} : Lit × DataW H → Nat
  | (.string bytes, d) => bytes.length + uptoBulk d + 1
  | (_, d) => uptoBulk d + 1
 end
def uptoSmall : (H : Type) → List (DataW H) → Bool := fun _ ds => decide (uptoBulkAll ds ≤ 1048576)
def OpenSpec.upto (s : _root_.Go.ChangeSpec) : _root_.Go.OpenSpec := { _root_.Go.OpenSpec.ofChange s with cond := some uptoSmall }

/-- 'peatbanklaw23.MapsNil', WHERE WHAT IT READS IS OF BULK AT MOST 1048576: true; the input reads as it did. -/
def mapsNilUptoRow : OpenClaim := { program := "ytodhaaaodmcplaa", sum := "0870d9671aa1557a4c18245869c2d86839f83a17ce4841da2ff7f1a48f0a27e0", func := "peatbank/peatbanklaw23.MapsNil", spec := "mapsNil", unfollowed := true, recurses := true, apart := false, narrowed := true }
def MapsNilUptoSaid : Prop := mapsNilUptoRow.holds Try.pinned (OpenSpec.upto mapsNilSpec)

/-- 'peatbanklaw23.MapsKeep', WHERE WHAT IT READS IS OF BULK AT MOST 1048576: true; the input reads as it did. -/
def mapsKeepUptoRow : OpenClaim := { program := "ytodhaaaodmcplaa", sum := "0870d9671aa1557a4c18245869c2d86839f83a17ce4841da2ff7f1a48f0a27e0", func := "peatbank/peatbanklaw23.MapsKeep", spec := "mapsKeep", unfollowed := true, recurses := true, apart := false, narrowed := true }
def MapsKeepUptoSaid : Prop := mapsKeepUptoRow.holds Try.pinned (OpenSpec.upto mapsKeepSpec)

/-- 'peatbanklaw23.MapsClear', WHERE WHAT IT READS IS OF BULK AT MOST 1048576: true; the input reads as it did. -/
def mapsClearUptoRow : OpenClaim := { program := "ytodhaaaodmcplaa", sum := "0870d9671aa1557a4c18245869c2d86839f83a17ce4841da2ff7f1a48f0a27e0", func := "peatbank/peatbanklaw23.MapsClear", spec := "mapsClear", unfollowed := true, recurses := true, apart := false, narrowed := true }
def MapsClearUptoSaid : Prop := mapsClearUptoRow.holds Try.pinned (OpenSpec.upto mapsClearSpec)

end Rows
end Go.Proofs.Ytodhaaaodmcplaa
