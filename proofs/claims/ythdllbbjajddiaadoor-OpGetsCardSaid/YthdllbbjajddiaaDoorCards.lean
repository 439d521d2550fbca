/-
  DERIVED. GIVEN WITH THE SEED: THE CARDS: each row of YthdllbbjajddiaaDoorRows.lean that lists a variable, with what it lists TIED to the program's text (the seventh form; the later family's looks); each row that meets fmt, with fmt's text TOLD by the authors' own Lean function (tested against real Go, not proved from fmt's source: count such statements apart). THE CARD IS WHAT COUNTS. Prove the row's statement (the work); the ties are given (YthdllbbjajddiaaDoorTie.lean); close each card by the builder's one call (the guide's Derived/Test/ToyasCard.lean, 'card_holds'). Laid BY PROGRAM, IN A SANDBOX (cutbox-door.mjs). By AI agents, Wed Nov 11 2026. No macro, syntax, notation, axiom, sorry.
-/
import Derived.Test.YthdllbbjajddiaaDoorRows
import GoSem.ClaimSeven
namespace Go.Proofs.YthdllbbjajddiaaDoor
namespace Rows

/-- THE TIED CARD OF 'peatbanklaw25.OpPuts'. -/
def opPutsCard : Claim7 := { stood := { row := opPutsRow, standIns := [], harness := (true, "0807c31203add36a9b09c75b05c70d2b23999b16c9024d3b6823e563790e86b9"), looks := false }, kinds := [], alts := [], laidByText := true, laidKinds := [.sentinel], laidTests := true, laidLooks := .later }
def OpPutsCardSaid : Prop := Claim7.holds Tryd.pinned (.plain (OpenSpec.ofChange opPutsSpec)) opPutsCard

/-- THE TIED CARD OF 'peatbanklaw25.OpGets'. -/
def opGetsCard : Claim7 := { stood := { row := opGetsRow, standIns := [], harness := (true, "0807c31203add36a9b09c75b05c70d2b23999b16c9024d3b6823e563790e86b9"), looks := false }, kinds := [], alts := [], laidByText := true, laidKinds := [.sentinel], laidTests := true, laidLooks := .later }
def OpGetsCardSaid : Prop := Claim7.holds Tryd.pinned (.plain (OpenSpec.ofChange opGetsSpec)) opGetsCard

/-- THE TIED CARD OF 'peatbanklaw25.OpBack'. -/
def opBackCard : Claim7 := { stood := { row := opBackRow, standIns := [], harness := (true, "0807c31203add36a9b09c75b05c70d2b23999b16c9024d3b6823e563790e86b9"), looks := false }, kinds := [], alts := [], laidByText := true, laidKinds := [.sentinel], laidTests := true, laidLooks := .later }
def OpBackCardSaid : Prop := Claim7.holds Tryd.pinned (.plain (OpenSpec.ofChange opBackSpec)) opBackCard

/-- THE TIED CARD OF 'peatbanklaw25.OpWhole'. -/
def opWholeCard : Claim7 := { stood := { row := opWholeRow, standIns := [], harness := (true, "0807c31203add36a9b09c75b05c70d2b23999b16c9024d3b6823e563790e86b9"), looks := false }, kinds := [], alts := [], laidByText := true, laidKinds := [.sentinel], laidTests := true, laidLooks := .later }
def OpWholeCardSaid : Prop := Claim7.holds Tryd.pinned (.plain (OpenSpec.ofChange opWholeSpec)) opWholeCard

/-- THE SECOND FORM's CARD OF 'peatbanklaw25.OpPuts'. -/
def opPutsUptoCard : Claim7 := { stood := { row := opPutsUptoRow, standIns := [], harness := (true, "0807c31203add36a9b09c75b05c70d2b23999b16c9024d3b6823e563790e86b9"), looks := false }, kinds := [], alts := [], laidByText := true, laidKinds := [.sentinel], laidTests := true, laidLooks := .later }
def OpPutsUptoCardSaid : Prop := Claim7.holds Tryd.pinned (.plain (OpenSpec.upto opPutsSpec)) opPutsUptoCard

/-- THE SECOND FORM's CARD OF 'peatbanklaw25.OpGets'. -/
def opGetsUptoCard : Claim7 := { stood := { row := opGetsUptoRow, standIns := [], harness := (true, "0807c31203add36a9b09c75b05c70d2b23999b16c9024d3b6823e563790e86b9"), looks := false }, kinds := [], alts := [], laidByText := true, laidKinds := [.sentinel], laidTests := true, laidLooks := .later }
def OpGetsUptoCardSaid : Prop := Claim7.holds Tryd.pinned (.plain (OpenSpec.upto opGetsSpec)) opGetsUptoCard

/-- THE SECOND FORM's CARD OF 'peatbanklaw25.OpBack'. -/
def opBackUptoCard : Claim7 := { stood := { row := opBackUptoRow, standIns := [], harness := (true, "0807c31203add36a9b09c75b05c70d2b23999b16c9024d3b6823e563790e86b9"), looks := false }, kinds := [], alts := [], laidByText := true, laidKinds := [.sentinel], laidTests := true, laidLooks := .later }
def OpBackUptoCardSaid : Prop := Claim7.holds Tryd.pinned (.plain (OpenSpec.upto opBackSpec)) opBackUptoCard

/-- THE SECOND FORM's CARD OF 'peatbanklaw25.OpWhole'. -/
def opWholeUptoCard : Claim7 := { stood := { row := opWholeUptoRow, standIns := [], harness := (true, "0807c31203add36a9b09c75b05c70d2b23999b16c9024d3b6823e563790e86b9"), looks := false }, kinds := [], alts := [], laidByText := true, laidKinds := [.sentinel], laidTests := true, laidLooks := .later }
def OpWholeUptoCardSaid : Prop := Claim7.holds Tryd.pinned (.plain (OpenSpec.upto opWholeSpec)) opWholeUptoCard
end Rows
end Go.Proofs.YthdllbbjajddiaaDoor
