/-
  DERIVED. GIVEN WITH THE SEED: THE CARDS: each row of YtaojbobbjnibhaaDoorRows.lean that lists a variable, with what it lists TIED to the program's text (the seventh form; the later family's looks); each row that meets fmt, with fmt's text TOLD by the authors' own Lean function (tested against real Go, not proved from fmt's source: count such statements apart). THE CARD IS WHAT COUNTS. Prove the row's statement (the work); the ties are given (YtaojbobbjnibhaaDoorTie.lean); close each card by the builder's one call (the guide's Derived/Test/ToyasCard.lean, 'card_holds'). Laid BY PROGRAM, IN A SANDBOX (cutbox-door.mjs). By AI agents, Wed Nov 11 2026. No macro, syntax, notation, axiom, sorry.
-/
import Derived.Test.YtaojbobbjnibhaaDoorRows
import GoSem.ClaimSeven
namespace Go.Proofs.YtaojbobbjnibhaaDoor
namespace Rows

/-- THE TIED CARD OF 'clerestorykeep1.WalkCommon'. -/
def walkCommonCard : Claim7 := { stood := { row := walkCommonRow, standIns := [], harness := (true, "494217e1040b8daa7da3f7ecf79304eb4b3802e60b23832b5de62099f0f54140"), looks := false }, kinds := [], alts := [], laidByText := true, laidKinds := [.data, .pinned], laidTests := true, laidLooks := .later }
def WalkCommonCardSaid : Prop := Claim7.holds Tryd.pinned (.plain (OpenSpec.ofChange walkCommonSpec)) walkCommonCard

/-- THE TIED CARD OF 'clerestorykeep1.IndexOnce'. -/
def indexOnceCard : Claim7 := { stood := { row := indexOnceRow, standIns := [], harness := (true, "494217e1040b8daa7da3f7ecf79304eb4b3802e60b23832b5de62099f0f54140"), looks := false }, kinds := [], alts := [], laidByText := true, laidKinds := [.data, .pinned], laidTests := true, laidLooks := .later }
def IndexOnceCardSaid : Prop := Claim7.holds Tryd.pinned (.plain (OpenSpec.ofChange indexOnceSpec)) indexOnceCard

/-- THE TIED CARD OF 'clerestorykeep1.DomBoth'. -/
def domBothCard : Claim7 := { stood := { row := domBothRow, standIns := [], harness := (true, "494217e1040b8daa7da3f7ecf79304eb4b3802e60b23832b5de62099f0f54140"), looks := false }, kinds := [], alts := [], laidByText := true, laidKinds := [.data, .pinned], laidTests := true, laidLooks := .later }
def DomBothCardSaid : Prop := Claim7.holds Tryd.pinned (.plain (OpenSpec.ofChange domBothSpec)) domBothCard

/-- THE TIED CARD OF 'clerestorykeep1.DomStays'. -/
def domStaysCard : Claim7 := { stood := { row := domStaysRow, standIns := [], harness := (true, "494217e1040b8daa7da3f7ecf79304eb4b3802e60b23832b5de62099f0f54140"), looks := false }, kinds := [], alts := [], laidByText := true, laidKinds := [.data, .pinned], laidTests := true, laidLooks := .later }
def DomStaysCardSaid : Prop := Claim7.holds Tryd.pinned (.plain (OpenSpec.ofChange domStaysSpec)) domStaysCard

/-- THE TIED CARD OF 'clerestorykeep1.DomOrder'. -/
def domOrderCard : Claim7 := { stood := { row := domOrderRow, standIns := [], harness := (true, "494217e1040b8daa7da3f7ecf79304eb4b3802e60b23832b5de62099f0f54140"), looks := false }, kinds := [], alts := [], laidByText := true, laidKinds := [.data, .pinned], laidTests := true, laidLooks := .later }
def DomOrderCardSaid : Prop := Claim7.holds Tryd.pinned (.plain (OpenSpec.ofChange domOrderSpec)) domOrderCard

/-- THE TIED CARD OF 'clerestorykeep1.DomCopy'. -/
def domCopyCard : Claim7 := { stood := { row := domCopyRow, standIns := [], harness := (true, "494217e1040b8daa7da3f7ecf79304eb4b3802e60b23832b5de62099f0f54140"), looks := false }, kinds := [], alts := [], laidByText := true, laidKinds := [.data, .pinned], laidTests := true, laidLooks := .later }
def DomCopyCardSaid : Prop := Claim7.holds Tryd.pinned (.plain (OpenSpec.ofChange domCopySpec)) domCopyCard

/-- THE SECOND FORM's CARD OF 'clerestorykeep1.WalkCommon'. -/
def walkCommonUptoCard : Claim7 := { stood := { row := walkCommonUptoRow, standIns := [], harness := (true, "494217e1040b8daa7da3f7ecf79304eb4b3802e60b23832b5de62099f0f54140"), looks := false }, kinds := [], alts := [], laidByText := true, laidKinds := [.data, .pinned], laidTests := true, laidLooks := .later }
def WalkCommonUptoCardSaid : Prop := Claim7.holds Tryd.pinned (.plain (OpenSpec.upto walkCommonSpec)) walkCommonUptoCard

/-- THE SECOND FORM's CARD OF 'clerestorykeep1.IndexOnce'. -/
def indexOnceUptoCard : Claim7 := { stood := { row := indexOnceUptoRow, standIns := [], harness := (true, "494217e1040b8daa7da3f7ecf79304eb4b3802e60b23832b5de62099f0f54140"), looks := false }, kinds := [], alts := [], laidByText := true, laidKinds := [.data, .pinned], laidTests := true, laidLooks := .later }
def IndexOnceUptoCardSaid : Prop := Claim7.holds Tryd.pinned (.plain (OpenSpec.upto indexOnceSpec)) indexOnceUptoCard

/-- THE SECOND FORM's CARD OF 'clerestorykeep1.DomBoth'. -/
def domBothUptoCard : Claim7 := { stood := { row := domBothUptoRow, standIns := [], harness := (true, "494217e1040b8daa7da3f7ecf79304eb4b3802e60b23832b5de62099f0f54140"), looks := false }, kinds := [], alts := [], laidByText := true, laidKinds := [.data, .pinned], laidTests := true, laidLooks := .later }
def DomBothUptoCardSaid : Prop := Claim7.holds Tryd.pinned (.plain (OpenSpec.upto domBothSpec)) domBothUptoCard

/-- THE SECOND FORM's CARD OF 'clerestorykeep1.DomStays'. -/
def domStaysUptoCard : Claim7 := { stood := { row := domStaysUptoRow, standIns := [], harness := (true, "494217e1040b8daa7da3f7ecf79304eb4b3802e60b23832b5de62099f0f54140"), looks := false }, kinds := [], alts := [], laidByText := true, laidKinds := [.data, .pinned], laidTests := true, laidLooks := .later }
def DomStaysUptoCardSaid : Prop := Claim7.holds Tryd.pinned (.plain (OpenSpec.upto domStaysSpec)) domStaysUptoCard

/-- THE SECOND FORM's CARD OF 'clerestorykeep1.DomOrder'. -/
def domOrderUptoCard : Claim7 := { stood := { row := domOrderUptoRow, standIns := [], harness := (true, "494217e1040b8daa7da3f7ecf79304eb4b3802e60b23832b5de62099f0f54140"), looks := false }, kinds := [], alts := [], laidByText := true, laidKinds := [.data, .pinned], laidTests := true, laidLooks := .later }
def DomOrderUptoCardSaid : Prop := Claim7.holds Tryd.pinned (.plain (OpenSpec.upto domOrderSpec)) domOrderUptoCard

/-- THE SECOND FORM's CARD OF 'clerestorykeep1.DomCopy'. -/
def domCopyUptoCard : Claim7 := { stood := { row := domCopyUptoRow, standIns := [], harness := (true, "494217e1040b8daa7da3f7ecf79304eb4b3802e60b23832b5de62099f0f54140"), looks := false }, kinds := [], alts := [], laidByText := true, laidKinds := [.data, .pinned], laidTests := true, laidLooks := .later }
def DomCopyUptoCardSaid : Prop := Claim7.holds Tryd.pinned (.plain (OpenSpec.upto domCopySpec)) domCopyUptoCard
end Rows
end Go.Proofs.YtaojbobbjnibhaaDoor
