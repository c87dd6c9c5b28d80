/-
  DERIVED. GIVEN WITH THE SEED: THE CARDS: each row of YtdakcfacckmjcaaDoorRows.lean that lists a variable, with what it lists TIED to the program's text (the seventh form; the later family's looks); each row that meets fmt, with fmt's text TOLD by the authors' own Lean function (tested against real Go, not proved from fmt's source: count such statements apart). THE CARD IS WHAT COUNTS. Prove the row's statement (the work); the ties are given (YtdakcfacckmjcaaDoorTie.lean); close each card by the builder's one call (the guide's Derived/Test/ToyasCard.lean, 'card_holds'). Laid BY PROGRAM, IN A SANDBOX (cutbox-door.mjs). By AI agents, Wed Nov 11 2026. No macro, syntax, notation, axiom, sorry.
-/
import Derived.Test.YtdakcfacckmjcaaDoorRows
import GoSem.ClaimSeven
namespace Go.Proofs.YtdakcfacckmjcaaDoor
namespace Rows

/-- THE TIED CARD OF 'clerestorykeep1.DomBoth'. -/
def domBothCard : Claim7 := { stood := { row := domBothRow, standIns := [], harness := (true, "b8f0e80a49559e784a43a2724c99631ffd110f63111a1dc0d98ec40991196fba"), looks := false }, kinds := [], alts := [], laidByText := true, laidKinds := [.data, .pinned], laidTests := true, laidLooks := .later }
def DomBothCardSaid : Prop := Claim7.holds Tryd.pinned (.plain (OpenSpec.ofChange domBothSpec)) domBothCard

/-- THE SECOND FORM's CARD OF 'clerestorykeep1.DomBoth'. -/
def domBothUptoCard : Claim7 := { stood := { row := domBothUptoRow, standIns := [], harness := (true, "b8f0e80a49559e784a43a2724c99631ffd110f63111a1dc0d98ec40991196fba"), looks := false }, kinds := [], alts := [], laidByText := true, laidKinds := [.data, .pinned], laidTests := true, laidLooks := .later }
def DomBothUptoCardSaid : Prop := Claim7.holds Tryd.pinned (.plain (OpenSpec.upto domBothSpec)) domBothUptoCard
end Rows
end Go.Proofs.YtdakcfacckmjcaaDoor
