/-
  DERIVED. GIVEN WITH THE SEED: THE CARDS: each row of YthdllbbjajddiaaGreatDoorRows.lean that lists a variable, with what it lists TIED to the program's text (the seventh form; the later family's looks); each row that meets fmt, with fmt's text TOLD by the authors' own Lean function (tested against real Go, not proved from fmt's source: count such statements apart). THE CARD IS WHAT COUNTS. Prove the row's statement (the work); the ties are given (YthdllbbjajddiaaGreatDoorTie.lean); close each card by the builder's one call (the guide's Derived/Test/ToyasCard.lean, 'card_holds'). Laid BY PROGRAM, IN A SANDBOX (cutbox-door.mjs). By AI agents, Wed Nov 11 2026. No macro, syntax, notation, axiom, sorry.
-/
import Derived.Test.YthdllbbjajddiaaGreatDoorRows
import GoSem.ClaimSeven
namespace Go.Proofs.YthdllbbjajddiaaGreatDoor
namespace Rows

/-- THE TIED CARD OF 'peatbanklaw25.OpNumbers'. -/
def opNumbersCard : Claim7 := { stood := { row := opNumbersRow, standIns := [], harness := (true, "4599509105506d44d81eadbd11bce02cf727dee4a9f91d24394c253fc547f953"), looks := false }, kinds := [], alts := [], laidByText := true, laidKinds := [.sentinel], laidTests := true, laidLooks := .later }
def OpNumbersCardSaid : Prop := Claim7.holds Tryz.pinned (.plain (OpenSpec.ofChange opNumbersSpec)) opNumbersCard

/-- THE SECOND FORM's CARD OF 'peatbanklaw25.OpNumbers'. -/
def opNumbersUptoCard : Claim7 := { stood := { row := opNumbersUptoRow, standIns := [], harness := (true, "4599509105506d44d81eadbd11bce02cf727dee4a9f91d24394c253fc547f953"), looks := false }, kinds := [], alts := [], laidByText := true, laidKinds := [.sentinel], laidTests := true, laidLooks := .later }
def OpNumbersUptoCardSaid : Prop := Claim7.holds Tryz.pinned (.plain (OpenSpec.upto opNumbersSpec)) opNumbersUptoCard
end Rows
end Go.Proofs.YthdllbbjajddiaaGreatDoor
