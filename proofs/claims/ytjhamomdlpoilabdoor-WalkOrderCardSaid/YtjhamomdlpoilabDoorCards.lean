/-
  DERIVED. GIVEN WITH THE SEED: THE CARDS: each row of YtjhamomdlpoilabDoorRows.lean that lists a variable, with what it lists TIED to the program's text (the seventh form; the later family's looks); each row that meets fmt, with fmt's text TOLD by the authors' own Lean function (tested against real Go, not proved from fmt's source: count such statements apart). THE CARD IS WHAT COUNTS. Prove the row's statement (the work); the ties are given (YtjhamomdlpoilabDoorTie.lean); close each card by the builder's one call (the guide's Derived/Test/ToyasCard.lean, 'card_holds'). Laid BY PROGRAM, IN A SANDBOX (cutbox-door.mjs). By AI agents, Wed Nov 11 2026. No macro, syntax, notation, axiom, sorry.
-/
import Derived.Test.YtjhamomdlpoilabDoorRows
import GoSem.ClaimSeven
namespace Go.Proofs.YtjhamomdlpoilabDoor
namespace Rows

/-- THE TIED CARD OF 'clerestorykeep1.CharsTwice'. -/
def charsTwiceCard : Claim7 := { stood := { row := charsTwiceRow, standIns := [], harness := (true, "98fc8bbba546388c1e7191e594cb3ecef05831bbf9f46af61505cbf4f6ed674e"), looks := false }, kinds := [], alts := [], laidByText := true, laidKinds := [.data, .pinned], laidTests := true, laidLooks := .later }
def CharsTwiceCardSaid : Prop := Claim7.holds Tryd.pinned (.plain (OpenSpec.ofChange charsTwiceSpec)) charsTwiceCard

/-- THE TIED CARD OF 'clerestorykeep1.CharsBack'. -/
def charsBackCard : Claim7 := { stood := { row := charsBackRow, standIns := [], harness := (true, "98fc8bbba546388c1e7191e594cb3ecef05831bbf9f46af61505cbf4f6ed674e"), looks := false }, kinds := [], alts := [], laidByText := true, laidKinds := [.data, .pinned], laidTests := true, laidLooks := .later }
def CharsBackCardSaid : Prop := Claim7.holds Tryd.pinned (.plain (OpenSpec.ofChange charsBackSpec)) charsBackCard

/-- THE TIED CARD OF 'clerestorykeep1.EntityBack'. -/
def entityBackCard : Claim7 := { stood := { row := entityBackRow, standIns := [], harness := (true, "98fc8bbba546388c1e7191e594cb3ecef05831bbf9f46af61505cbf4f6ed674e"), looks := false }, kinds := [], alts := [], laidByText := true, laidKinds := [.data, .pinned], laidTests := true, laidLooks := .later }
def EntityBackCardSaid : Prop := Claim7.holds Tryd.pinned (.plain (OpenSpec.ofChange entityBackSpec)) entityBackCard

/-- THE TIED CARD OF 'clerestorykeep1.WalkBack'. -/
def walkBackCard : Claim7 := { stood := { row := walkBackRow, standIns := [], harness := (true, "98fc8bbba546388c1e7191e594cb3ecef05831bbf9f46af61505cbf4f6ed674e"), looks := false }, kinds := [], alts := [], laidByText := true, laidKinds := [.data, .pinned], laidTests := true, laidLooks := .later }
def WalkBackCardSaid : Prop := Claim7.holds Tryd.pinned (.plain (OpenSpec.ofChange walkBackSpec)) walkBackCard

/-- THE TIED CARD OF 'clerestorykeep1.WalkOrder'. -/
def walkOrderCard : Claim7 := { stood := { row := walkOrderRow, standIns := [], harness := (true, "98fc8bbba546388c1e7191e594cb3ecef05831bbf9f46af61505cbf4f6ed674e"), looks := false }, kinds := [], alts := [], laidByText := true, laidKinds := [.data, .pinned], laidTests := true, laidLooks := .later }
def WalkOrderCardSaid : Prop := Claim7.holds Tryd.pinned (.plain (OpenSpec.ofChange walkOrderSpec)) walkOrderCard

/-- THE SECOND FORM's CARD OF 'clerestorykeep1.CharsTwice'. -/
def charsTwiceUptoCard : Claim7 := { stood := { row := charsTwiceUptoRow, standIns := [], harness := (true, "98fc8bbba546388c1e7191e594cb3ecef05831bbf9f46af61505cbf4f6ed674e"), looks := false }, kinds := [], alts := [], laidByText := true, laidKinds := [.data, .pinned], laidTests := true, laidLooks := .later }
def CharsTwiceUptoCardSaid : Prop := Claim7.holds Tryd.pinned (.plain (OpenSpec.upto charsTwiceSpec)) charsTwiceUptoCard

/-- THE SECOND FORM's CARD OF 'clerestorykeep1.CharsBack'. -/
def charsBackUptoCard : Claim7 := { stood := { row := charsBackUptoRow, standIns := [], harness := (true, "98fc8bbba546388c1e7191e594cb3ecef05831bbf9f46af61505cbf4f6ed674e"), looks := false }, kinds := [], alts := [], laidByText := true, laidKinds := [.data, .pinned], laidTests := true, laidLooks := .later }
def CharsBackUptoCardSaid : Prop := Claim7.holds Tryd.pinned (.plain (OpenSpec.upto charsBackSpec)) charsBackUptoCard

/-- THE SECOND FORM's CARD OF 'clerestorykeep1.EntityBack'. -/
def entityBackUptoCard : Claim7 := { stood := { row := entityBackUptoRow, standIns := [], harness := (true, "98fc8bbba546388c1e7191e594cb3ecef05831bbf9f46af61505cbf4f6ed674e"), looks := false }, kinds := [], alts := [], laidByText := true, laidKinds := [.data, .pinned], laidTests := true, laidLooks := .later }
def EntityBackUptoCardSaid : Prop := Claim7.holds Tryd.pinned (.plain (OpenSpec.upto entityBackSpec)) entityBackUptoCard

/-- THE SECOND FORM's CARD OF 'clerestorykeep1.WalkBack'. -/
def walkBackUptoCard : Claim7 := { stood := { row := walkBackUptoRow, standIns := [], harness := (true, "98fc8bbba546388c1e7191e594cb3ecef05831bbf9f46af61505cbf4f6ed674e"), looks := false }, kinds := [], alts := [], laidByText := true, laidKinds := [.data, .pinned], laidTests := true, laidLooks := .later }
def WalkBackUptoCardSaid : Prop := Claim7.holds Tryd.pinned (.plain (OpenSpec.upto walkBackSpec)) walkBackUptoCard

/-- THE SECOND FORM's CARD OF 'clerestorykeep1.WalkOrder'. -/
def walkOrderUptoCard : Claim7 := { stood := { row := walkOrderUptoRow, standIns := [], harness := (true, "98fc8bbba546388c1e7191e594cb3ecef05831bbf9f46af61505cbf4f6ed674e"), looks := false }, kinds := [], alts := [], laidByText := true, laidKinds := [.data, .pinned], laidTests := true, laidLooks := .later }
def WalkOrderUptoCardSaid : Prop := Claim7.holds Tryd.pinned (.plain (OpenSpec.upto walkOrderSpec)) walkOrderUptoCard
end Rows
end Go.Proofs.YtjhamomdlpoilabDoor
