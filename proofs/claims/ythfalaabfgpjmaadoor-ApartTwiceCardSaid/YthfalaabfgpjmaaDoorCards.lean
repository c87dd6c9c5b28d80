/-
  DERIVED. GIVEN WITH THE SEED: THE CARDS: each row of YthfalaabfgpjmaaDoorRows.lean that lists a variable, with what it lists TIED to the program's text (the seventh form; the later family's looks); each row that meets fmt, with fmt's text TOLD by the authors' own Lean function (tested against real Go, not proved from fmt's source: count such statements apart). THE CARD IS WHAT COUNTS. Prove the row's statement (the work); the ties are given (YthfalaabfgpjmaaDoorTie.lean); close each card by the builder's one call (the guide's Derived/Test/ToyasCard.lean, 'card_holds'). Laid BY PROGRAM, IN A SANDBOX (cutbox-door.mjs). By AI agents, Wed Nov 11 2026. No macro, syntax, notation, axiom, sorry.
-/
import Derived.Test.YthfalaabfgpjmaaDoorRows
import GoSem.ClaimSeven
namespace Go.Proofs.YthfalaabfgpjmaaDoor
namespace Rows

/-- THE TIED CARD OF 'clerestorykeep1.ApartOrder'. -/
def apartOrderCard : Claim7 := { stood := { row := apartOrderRow, standIns := [], harness := (true, "1acf58e43f165c7eaf4283f9c253769c06b4e8d2139cd2dbfa6b17d14103ce82"), looks := false }, kinds := [], alts := [], laidByText := true, laidKinds := [.data, .pinned], laidTests := true, laidLooks := .later }
def ApartOrderCardSaid : Prop := Claim7.holds Tryd.pinned (.plain (OpenSpec.ofChange apartOrderSpec)) apartOrderCard

/-- THE TIED CARD OF 'clerestorykeep1.ApartTwice'. -/
def apartTwiceCard : Claim7 := { stood := { row := apartTwiceRow, standIns := [], harness := (true, "1acf58e43f165c7eaf4283f9c253769c06b4e8d2139cd2dbfa6b17d14103ce82"), looks := false }, kinds := [], alts := [], laidByText := true, laidKinds := [.data, .pinned], laidTests := true, laidLooks := .later }
def ApartTwiceCardSaid : Prop := Claim7.holds Tryd.pinned (.plain (OpenSpec.ofChange apartTwiceSpec)) apartTwiceCard

/-- THE TIED CARD OF 'clerestorykeep1.ApartTouch'. -/
def apartTouchCard : Claim7 := { stood := { row := apartTouchRow, standIns := [], harness := (true, "1acf58e43f165c7eaf4283f9c253769c06b4e8d2139cd2dbfa6b17d14103ce82"), looks := false }, kinds := [], alts := [], laidByText := true, laidKinds := [.data, .pinned], laidTests := true, laidLooks := .later }
def ApartTouchCardSaid : Prop := Claim7.holds Tryd.pinned (.plain (OpenSpec.ofChange apartTouchSpec)) apartTouchCard

/-- THE SECOND FORM's CARD OF 'clerestorykeep1.ApartOrder'. -/
def apartOrderUptoCard : Claim7 := { stood := { row := apartOrderUptoRow, standIns := [], harness := (true, "1acf58e43f165c7eaf4283f9c253769c06b4e8d2139cd2dbfa6b17d14103ce82"), looks := false }, kinds := [], alts := [], laidByText := true, laidKinds := [.data, .pinned], laidTests := true, laidLooks := .later }
def ApartOrderUptoCardSaid : Prop := Claim7.holds Tryd.pinned (.plain (OpenSpec.upto apartOrderSpec)) apartOrderUptoCard

/-- THE SECOND FORM's CARD OF 'clerestorykeep1.ApartTwice'. -/
def apartTwiceUptoCard : Claim7 := { stood := { row := apartTwiceUptoRow, standIns := [], harness := (true, "1acf58e43f165c7eaf4283f9c253769c06b4e8d2139cd2dbfa6b17d14103ce82"), looks := false }, kinds := [], alts := [], laidByText := true, laidKinds := [.data, .pinned], laidTests := true, laidLooks := .later }
def ApartTwiceUptoCardSaid : Prop := Claim7.holds Tryd.pinned (.plain (OpenSpec.upto apartTwiceSpec)) apartTwiceUptoCard

/-- THE SECOND FORM's CARD OF 'clerestorykeep1.ApartTouch'. -/
def apartTouchUptoCard : Claim7 := { stood := { row := apartTouchUptoRow, standIns := [], harness := (true, "1acf58e43f165c7eaf4283f9c253769c06b4e8d2139cd2dbfa6b17d14103ce82"), looks := false }, kinds := [], alts := [], laidByText := true, laidKinds := [.data, .pinned], laidTests := true, laidLooks := .later }
def ApartTouchUptoCardSaid : Prop := Claim7.holds Tryd.pinned (.plain (OpenSpec.upto apartTouchSpec)) apartTouchUptoCard
end Rows
end Go.Proofs.YthfalaabfgpjmaaDoor
