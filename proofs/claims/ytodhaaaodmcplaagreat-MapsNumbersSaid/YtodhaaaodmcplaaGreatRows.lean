/-
  No cell of these rows narrows 'for every input' (looked for: loops, veiled, ifaces, maps, wideKeys, modest, calm, conditions, laid).
  DERIVED. THE GIVEN ROWS OF THIS SEAT. 2 by the template 'for every input the law returns true; each argument reads behind the call as it read before'; 0 by the template 'total and deterministic' (their statements: YtodhaaaodmcplaaGreatTotals.lean).
  GIVEN WITH THE SEED: the statements are not yours to turn. If you find one false, say at which input.
  Laid BY PROGRAM, IN A SANDBOX (cutbox-rows.mjs): the forced cells as the released guide's own fill.sh prints them over the translation 21966a1bd4e750d2… (all of the seat's roots in one cut). By AI agents, Wed Nov 11 2026. No macro, syntax, notation, axiom, sorry.
-/
import Derived.Test.YtodhaaaodmcplaaGreatChecked
import GoSem.Claim
import GoSem.ClaimJoined
import GoSem.ClaimMapViews
import Derived.JoinedTies
import Derived.KernelRfl
namespace Go.Proofs.YtodhaaaodmcplaaGreat
/- THE CELL 'sum', in the pinned program and in every row, IS THE sha256 OF THE DUMP (.gsa) THAT YtodhaaaodmcplaaGreatProg.lean LOADS. Nothing in Lean hashes anything: it is a label: what it is worth is what the hold of that sum in a sandbox is worth. -/
noncomputable def Tryz.pinned : Pinned := { name := "ytodhaaaodmcplaagreat", sum := "21966a1bd4e750d2d1cfd761d31d18900abc6df5290376ce08fe502920bcb1f2", checked := Tryz.checked }
namespace Rows
def none {H : Type} : Left H := { results := [], args := [] }

/-- 'peatbanklaw23.MapsLives': WHATEVER THE INPUT: true; the input reads as it did. -/
def mapsLivesSpec : ChangeSpec := { name := "mapsLives", fn := fun _ => fun
  | [d1, d2] => { results := [.lit (.bool true)], args := [d1, d2] }
  | _ => none }
def mapsLivesRow : OpenClaim := { program := "ytodhaaaodmcplaagreat", sum := "21966a1bd4e750d2d1cfd761d31d18900abc6df5290376ce08fe502920bcb1f2", func := "peatbank/peatbanklaw23.MapsLives", spec := "mapsLives", unfollowed := true, recurses := true, apart := false }
def MapsLivesSaid : Prop := mapsLivesRow.holds Tryz.pinned (OpenSpec.ofChange mapsLivesSpec)

/-- ITS FALSE NEIGHBOUR: 'it returns false'. Refute it at one input. -/
def mapsLivesWrong : ChangeSpec := { name := "mapsLives", fn := fun _ => fun
  | [d1, d2] => { results := [.lit (.bool false)], args := [d1, d2] }
  | _ => none }
def MapsLivesWrongFalsely : Prop := mapsLivesRow.holds Tryz.pinned (OpenSpec.ofChange mapsLivesWrong)

/-- 'peatbanklaw23.MapsNumbers': WHATEVER THE INPUT: true; the input reads as it did. -/
def mapsNumbersSpec : ChangeSpec := { name := "mapsNumbers", fn := fun _ => fun
  | [] => { results := [.lit (.bool true)], args := [] }
  | _ => none }
def mapsNumbersRow : OpenClaim := { program := "ytodhaaaodmcplaagreat", sum := "21966a1bd4e750d2d1cfd761d31d18900abc6df5290376ce08fe502920bcb1f2", func := "peatbank/peatbanklaw23.MapsNumbers", spec := "mapsNumbers", unfollowed := true, recurses := true, apart := false }
def MapsNumbersSaid : Prop := mapsNumbersRow.holds Tryz.pinned (OpenSpec.ofChange mapsNumbersSpec)

/-- ITS FALSE NEIGHBOUR: 'it returns false'. Refute it at one input. -/
def mapsNumbersWrong : ChangeSpec := { name := "mapsNumbers", fn := fun _ => fun
  | [] => { results := [.lit (.bool false)], args := [] }
  | _ => none }
def MapsNumbersWrongFalsely : Prop := mapsNumbersRow.holds Tryz.pinned (OpenSpec.ofChange mapsNumbersWrong)

/- THE SECOND FORM. 'bulk': how many values and letters a reading holds, each counted each time it is reached (what is shared counts as often as it is met; a slice's spare places count too). A statement '..UptoSaid' is the law's where the arguments, and the package variables that the reading takes, are together of bulk at most 1048576: NARROWER than '..Said'. Prove '..Said' where nothing that the law and all that it calls make is longer than what came in: it says more and counts as full. Else prove '..UptoSaid'. A law counts once. -/
mutual
def uptoBulk {H : Type} : DataW H → Nat
  | .lit (.string bytes) => bytes.length + 1
  | .lit _ => 1
  | .nil => 1
  | .ptr d => uptoBulk d + 1
  | .slice elems spare => uptoBulkAll elems + uptoBulkAll spare + 1
  | .agg parts => uptoBulkAll parts + 1
  | .iface _ d => uptoBulk d + 1
  | .map entries => uptoBulkEntries entries + 1
  | .held _ => 1
def uptoBulkAll {H : Type} : List (DataW H) → Nat
  | [] => 0
  | d :: r => uptoBulk d + uptoBulkAll r
def uptoBulkEntries {H : Type} : List (Lit × DataW H) → Nat
  | [] => 0
  | x :: r => uptoBulkEntry x + uptoBulkEntries r
def uptoBulkEntry {H : Type} : Lit × DataW H → Nat
  | (.string bytes, d) => bytes.length + uptoBulk d + 1
  | (_, d) => uptoBulk d + 1
 end
def uptoSmall : (H : Type) → List (DataW H) → Bool := fun _ ds => decide (uptoBulkAll ds ≤ 1048576)
def OpenSpec.upto (s : _root_.Go.ChangeSpec) : _root_.Go.OpenSpec := { _root_.Go.OpenSpec.ofChange s with cond := some uptoSmall }

/-- 'peatbanklaw23.MapsLives', WHERE WHAT IT READS IS OF BULK AT MOST 1048576: true; the input reads as it did. -/
def mapsLivesUptoRow : OpenClaim := { program := "ytodhaaaodmcplaagreat", sum := "21966a1bd4e750d2d1cfd761d31d18900abc6df5290376ce08fe502920bcb1f2", func := "peatbank/peatbanklaw23.MapsLives", spec := "mapsLives", unfollowed := true, recurses := true, apart := false, narrowed := true }
def MapsLivesUptoSaid : Prop := mapsLivesUptoRow.holds Tryz.pinned (OpenSpec.upto mapsLivesSpec)

/-- 'peatbanklaw23.MapsNumbers', WHERE WHAT IT READS IS OF BULK AT MOST 1048576: true; the input reads as it did. -/
def mapsNumbersUptoRow : OpenClaim := { program := "ytodhaaaodmcplaagreat", sum := "21966a1bd4e750d2d1cfd761d31d18900abc6df5290376ce08fe502920bcb1f2", func := "peatbank/peatbanklaw23.MapsNumbers", spec := "mapsNumbers", unfollowed := true, recurses := true, apart := false, narrowed := true }
def MapsNumbersUptoSaid : Prop := mapsNumbersUptoRow.holds Tryz.pinned (OpenSpec.upto mapsNumbersSpec)

end Rows
end Go.Proofs.YtodhaaaodmcplaaGreat
