/-
  DERIVED. GIVEN WITH THE SEED: THE CARDS: each row of YthcfbjllohmfoaaDoorRows.lean that lists a variable, with what it lists TIED to the program's text (the seventh form; the later family's looks); each row that meets fmt, with fmt's text TOLD by the authors' own Lean function (tested against real Go, not proved from fmt's source: count such statements apart). THE CARD IS WHAT COUNTS. Prove the row's statement (the work); the ties are given (YthcfbjllohmfoaaDoorTie.lean); close each card by the builder's one call (the guide's Derived/Test/ToyasCard.lean, 'card_holds'). Laid BY PROGRAM, IN A SANDBOX (cutbox-door.mjs). By AI agents, Wed Nov 11 2026. No macro, syntax, notation, axiom, sorry.
-/
import Derived.Test.YthcfbjllohmfoaaDoorRows
import GoSem.ClaimSeven
namespace Go.Proofs.YthcfbjllohmfoaaDoor
namespace Rows

/-- THE TIED CARD OF 'clerestorykeep1.DomStays'. -/
def domStaysCard : Claim7 := { stood := { row := domStaysRow, standIns := [], harness := (true, "8bf4cdd3a6bf12c78b88b5dabf10814c5408d5d41d6e5c52fe91ab261be26033"), looks := false }, kinds := [], alts := [], laidByText := true, laidKinds := [.data, .pinned], laidTests := true, laidLooks := .later }
def DomStaysCardSaid : Prop := Claim7.holds Tryd.pinned (.plain (OpenSpec.ofChange domStaysSpec)) domStaysCard

/-- THE SECOND FORM's CARD OF 'clerestorykeep1.DomStays'. -/
def domStaysUptoCard : Claim7 := { stood := { row := domStaysUptoRow, standIns := [], harness := (true, "8bf4cdd3a6bf12c78b88b5dabf10814c5408d5d41d6e5c52fe91ab261be26033"), looks := false }, kinds := [], alts := [], laidByText := true, laidKinds := [.data, .pinned], laidTests := true, laidLooks := .later }
def DomStaysUptoCardSaid : Prop := Claim7.holds Tryd.pinned (.plain (OpenSpec.upto domStaysSpec)) domStaysUptoCard
end Rows
end Go.Proofs.YthcfbjllohmfoaaDoor
