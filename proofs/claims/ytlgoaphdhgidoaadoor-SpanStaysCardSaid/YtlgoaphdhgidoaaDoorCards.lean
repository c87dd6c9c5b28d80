/-
  DERIVED. GIVEN WITH THE SEED: THE CARDS: each row of YtlgoaphdhgidoaaDoorRows.lean that lists a variable, with what it lists TIED to the program's text (the seventh form; the later family's looks); each row that meets fmt, with fmt's text TOLD by the authors' own Lean function (tested against real Go, not proved from fmt's source: count such statements apart). THE CARD IS WHAT COUNTS. Prove the row's statement (the work); the ties are given (YtlgoaphdhgidoaaDoorTie.lean); close each card by the builder's one call (the guide's Derived/Test/ToyasCard.lean, 'card_holds'). Laid BY PROGRAM, IN A SANDBOX (cutbox-door.mjs). By AI agents, Wed Nov 11 2026. No macro, syntax, notation, axiom, sorry.
-/
import Derived.Test.YtlgoaphdhgidoaaDoorRows
import GoSem.ClaimSeven
namespace Go.Proofs.YtlgoaphdhgidoaaDoor
namespace Rows

/-- THE TIED CARD OF 'clerestorykeep1.SpanStays'. -/
def spanStaysCard : Claim7 := { stood := { row := spanStaysRow, standIns := [], harness := (true, "b817b96592e2ee680de2e3aa37ba8a97107aaaa83164c73687908fa814aefd17"), looks := false }, kinds := [], alts := [], laidByText := true, laidKinds := [.data, .pinned], laidTests := true, laidLooks := .later }
def SpanStaysCardSaid : Prop := Claim7.holds Tryd.pinned (.plain (OpenSpec.ofChange spanStaysSpec)) spanStaysCard

/-- THE SECOND FORM's CARD OF 'clerestorykeep1.SpanStays'. -/
def spanStaysUptoCard : Claim7 := { stood := { row := spanStaysUptoRow, standIns := [], harness := (true, "b817b96592e2ee680de2e3aa37ba8a97107aaaa83164c73687908fa814aefd17"), looks := false }, kinds := [], alts := [], laidByText := true, laidKinds := [.data, .pinned], laidTests := true, laidLooks := .later }
def SpanStaysUptoCardSaid : Prop := Claim7.holds Tryd.pinned (.plain (OpenSpec.upto spanStaysSpec)) spanStaysUptoCard
end Rows
end Go.Proofs.YtlgoaphdhgidoaaDoor
