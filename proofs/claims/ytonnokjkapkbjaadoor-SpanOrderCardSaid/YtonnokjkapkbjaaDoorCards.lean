/-
  DERIVED. GIVEN WITH THE SEED: THE CARDS: each row of YtonnokjkapkbjaaDoorRows.lean that lists a variable, with what it lists TIED to the program's text (the seventh form; the later family's looks); each row that meets fmt, with fmt's text TOLD by the authors' own Lean function (tested against real Go, not proved from fmt's source: count such statements apart). THE CARD IS WHAT COUNTS. Prove the row's statement (the work); the ties are given (YtonnokjkapkbjaaDoorTie.lean); close each card by the builder's one call (the guide's Derived/Test/ToyasCard.lean, 'card_holds'). Laid BY PROGRAM, IN A SANDBOX (cutbox-door.mjs). By AI agents, Wed Nov 11 2026. No macro, syntax, notation, axiom, sorry.
-/
import Derived.Test.YtonnokjkapkbjaaDoorRows
import GoSem.ClaimSeven
namespace Go.Proofs.YtonnokjkapkbjaaDoor
namespace Rows

/-- THE TIED CARD OF 'clerestorykeep1.SpanOrder'. -/
def spanOrderCard : Claim7 := { stood := { row := spanOrderRow, standIns := [], harness := (true, "c94aa48f2e2c912dd5bff13fc338e174d704c0a801f54f5c1789121b3d8e5d29"), looks := false }, kinds := [], alts := [], laidByText := true, laidKinds := [.data, .pinned], laidTests := true, laidLooks := .later }
def SpanOrderCardSaid : Prop := Claim7.holds Tryd.pinned (.plain (OpenSpec.ofChange spanOrderSpec)) spanOrderCard

/-- THE TIED CARD OF 'clerestorykeep1.SpanStays'. -/
def spanStaysCard : Claim7 := { stood := { row := spanStaysRow, standIns := [], harness := (true, "c94aa48f2e2c912dd5bff13fc338e174d704c0a801f54f5c1789121b3d8e5d29"), looks := false }, kinds := [], alts := [], laidByText := true, laidKinds := [.data, .pinned], laidTests := true, laidLooks := .later }
def SpanStaysCardSaid : Prop := Claim7.holds Tryd.pinned (.plain (OpenSpec.ofChange spanStaysSpec)) spanStaysCard

/-- THE TIED CARD OF 'clerestorykeep1.SerialParts'. -/
def serialPartsCard : Claim7 := { stood := { row := serialPartsRow, standIns := [], harness := (true, "c94aa48f2e2c912dd5bff13fc338e174d704c0a801f54f5c1789121b3d8e5d29"), looks := false }, kinds := [], alts := [], laidByText := true, laidKinds := [.data, .pinned], laidTests := true, laidLooks := .later }
def SerialPartsCardSaid : Prop := Claim7.holds Tryd.pinned (.plain (OpenSpec.ofChange serialPartsSpec)) serialPartsCard

/-- THE TIED CARD OF 'clerestorykeep1.SpanParts'. -/
def spanPartsCard : Claim7 := { stood := { row := spanPartsRow, standIns := [], harness := (true, "c94aa48f2e2c912dd5bff13fc338e174d704c0a801f54f5c1789121b3d8e5d29"), looks := false }, kinds := [], alts := [], laidByText := true, laidKinds := [.data, .pinned], laidTests := true, laidLooks := .later }
def SpanPartsCardSaid : Prop := Claim7.holds Tryd.pinned (.plain (OpenSpec.ofChange spanPartsSpec)) spanPartsCard

/-- THE TIED CARD OF 'clerestorykeep1.SerialLines'. -/
def serialLinesCard : Claim7 := { stood := { row := serialLinesRow, standIns := [], harness := (true, "c94aa48f2e2c912dd5bff13fc338e174d704c0a801f54f5c1789121b3d8e5d29"), looks := false }, kinds := [], alts := [], laidByText := true, laidKinds := [.data, .pinned], laidTests := true, laidLooks := .later }
def SerialLinesCardSaid : Prop := Claim7.holds Tryd.pinned (.plain (OpenSpec.ofChange serialLinesSpec)) serialLinesCard

/-- THE TIED CARD OF 'clerestorykeep1.SpanCut'. -/
def spanCutCard : Claim7 := { stood := { row := spanCutRow, standIns := [], harness := (true, "c94aa48f2e2c912dd5bff13fc338e174d704c0a801f54f5c1789121b3d8e5d29"), looks := false }, kinds := [], alts := [], laidByText := true, laidKinds := [.data, .pinned], laidTests := true, laidLooks := .later }
def SpanCutCardSaid : Prop := Claim7.holds Tryd.pinned (.plain (OpenSpec.ofChange spanCutSpec)) spanCutCard

/-- THE SECOND FORM's CARD OF 'clerestorykeep1.SpanOrder'. -/
def spanOrderUptoCard : Claim7 := { stood := { row := spanOrderUptoRow, standIns := [], harness := (true, "c94aa48f2e2c912dd5bff13fc338e174d704c0a801f54f5c1789121b3d8e5d29"), looks := false }, kinds := [], alts := [], laidByText := true, laidKinds := [.data, .pinned], laidTests := true, laidLooks := .later }
def SpanOrderUptoCardSaid : Prop := Claim7.holds Tryd.pinned (.plain (OpenSpec.upto spanOrderSpec)) spanOrderUptoCard

/-- THE SECOND FORM's CARD OF 'clerestorykeep1.SpanStays'. -/
def spanStaysUptoCard : Claim7 := { stood := { row := spanStaysUptoRow, standIns := [], harness := (true, "c94aa48f2e2c912dd5bff13fc338e174d704c0a801f54f5c1789121b3d8e5d29"), looks := false }, kinds := [], alts := [], laidByText := true, laidKinds := [.data, .pinned], laidTests := true, laidLooks := .later }
def SpanStaysUptoCardSaid : Prop := Claim7.holds Tryd.pinned (.plain (OpenSpec.upto spanStaysSpec)) spanStaysUptoCard

/-- THE SECOND FORM's CARD OF 'clerestorykeep1.SerialParts'. -/
def serialPartsUptoCard : Claim7 := { stood := { row := serialPartsUptoRow, standIns := [], harness := (true, "c94aa48f2e2c912dd5bff13fc338e174d704c0a801f54f5c1789121b3d8e5d29"), looks := false }, kinds := [], alts := [], laidByText := true, laidKinds := [.data, .pinned], laidTests := true, laidLooks := .later }
def SerialPartsUptoCardSaid : Prop := Claim7.holds Tryd.pinned (.plain (OpenSpec.upto serialPartsSpec)) serialPartsUptoCard

/-- THE SECOND FORM's CARD OF 'clerestorykeep1.SpanParts'. -/
def spanPartsUptoCard : Claim7 := { stood := { row := spanPartsUptoRow, standIns := [], harness := (true, "c94aa48f2e2c912dd5bff13fc338e174d704c0a801f54f5c1789121b3d8e5d29"), looks := false }, kinds := [], alts := [], laidByText := true, laidKinds := [.data, .pinned], laidTests := true, laidLooks := .later }
def SpanPartsUptoCardSaid : Prop := Claim7.holds Tryd.pinned (.plain (OpenSpec.upto spanPartsSpec)) spanPartsUptoCard

/-- THE SECOND FORM's CARD OF 'clerestorykeep1.SerialLines'. -/
def serialLinesUptoCard : Claim7 := { stood := { row := serialLinesUptoRow, standIns := [], harness := (true, "c94aa48f2e2c912dd5bff13fc338e174d704c0a801f54f5c1789121b3d8e5d29"), looks := false }, kinds := [], alts := [], laidByText := true, laidKinds := [.data, .pinned], laidTests := true, laidLooks := .later }
def SerialLinesUptoCardSaid : Prop := Claim7.holds Tryd.pinned (.plain (OpenSpec.upto serialLinesSpec)) serialLinesUptoCard

/-- THE SECOND FORM's CARD OF 'clerestorykeep1.SpanCut'. -/
def spanCutUptoCard : Claim7 := { stood := { row := spanCutUptoRow, standIns := [], harness := (true, "c94aa48f2e2c912dd5bff13fc338e174d704c0a801f54f5c1789121b3d8e5d29"), looks := false }, kinds := [], alts := [], laidByText := true, laidKinds := [.data, .pinned], laidTests := true, laidLooks := .later }
def SpanCutUptoCardSaid : Prop := Claim7.holds Tryd.pinned (.plain (OpenSpec.upto spanCutSpec)) spanCutUptoCard
end Rows
end Go.Proofs.YtonnokjkapkbjaaDoor
