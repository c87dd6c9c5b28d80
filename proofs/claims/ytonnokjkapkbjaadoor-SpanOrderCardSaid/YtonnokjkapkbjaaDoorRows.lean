/-
  NARROWER THAN 'FOR EVERY INPUT', by the rows' own cells (each row's printed sentence says how): SpanOrder: laid · SpanStays: laid · SerialParts: laid · SpanParts: laid · SerialLines: laid · SpanCut: laid.
  DERIVED. THE GIVEN ROWS OF THIS SEAT. 6 by the template 'for every input the law returns true; each argument reads behind the call as it read before'; 0 by the template 'total and deterministic' (their statements: YtonnokjkapkbjaaDoorTotals.lean).
  GIVEN WITH THE SEED: the statements are not yours to turn. If you find one false, say at which input.
  Laid BY PROGRAM, IN A SANDBOX (cutbox-rows.mjs): the forced cells as the released guide's own fill.sh prints them over the translation e0f233156ec7dc8a… (all of the seat's roots in one cut). By AI agents, Wed Nov 11 2026. No macro, syntax, notation, axiom, sorry.
-/
import Derived.Test.YtonnokjkapkbjaaDoorChecked
import GoSem.PinnedTables
import GoSem.Claim
import GoSem.ClaimJoined
import GoSem.ClaimMapViews
import Derived.JoinedTies
import Derived.KernelRfl
namespace Go.Proofs.YtonnokjkapkbjaaDoor
/- THE CELL 'sum', in the pinned program and in every row, IS THE sha256 OF THE DUMP (.gsa) THAT YtonnokjkapkbjaaDoorProg.lean LOADS. Nothing in Lean hashes anything: it is a label: what it is worth is what the hold of that sum in a sandbox is worth. -/
noncomputable def Tryd.pinned : Pinned := { name := "ytonnokjkapkbjaadoor", sum := "e0f233156ec7dc8aa141037bb857bfbec8d1d42ed084bdc93e1c1b4156c7e69a", checked := Tryd.checked }
namespace Rows
def none {H : Type} : Left H := { results := [], args := [] }

/- WHAT THE LISTED PACKAGE-LEVEL VARIABLES READ AS WHEN THE CALL BEGINS. Each datum BY PROGRAM (the guide's laid-datum.mjs) off the statement by which the dump's own 'gosem.cut.vars' lays the variable. In a bare row this is a premise. The card (YtonnokjkapkbjaaDoorCards.lean) ties it to the program's text. -/
def laid_unicode_utf8_acceptRanges {H : Type} : DataW H := .agg [.agg [.lit (.int .u8 128), .lit (.int .u8 191)], .agg [.lit (.int .u8 160), .lit (.int .u8 191)], .agg [.lit (.int .u8 128), .lit (.int .u8 159)], .agg [.lit (.int .u8 144), .lit (.int .u8 191)], .agg [.lit (.int .u8 128), .lit (.int .u8 143)], .agg [.lit (.int .u8 0), .lit (.int .u8 0)], .agg [.lit (.int .u8 0), .lit (.int .u8 0)], .agg [.lit (.int .u8 0), .lit (.int .u8 0)], .agg [.lit (.int .u8 0), .lit (.int .u8 0)], .agg [.lit (.int .u8 0), .lit (.int .u8 0)], .agg [.lit (.int .u8 0), .lit (.int .u8 0)], .agg [.lit (.int .u8 0), .lit (.int .u8 0)], .agg [.lit (.int .u8 0), .lit (.int .u8 0)], .agg [.lit (.int .u8 0), .lit (.int .u8 0)], .agg [.lit (.int .u8 0), .lit (.int .u8 0)], .agg [.lit (.int .u8 0), .lit (.int .u8 0)]]
/-- One of Go's own tables, pinned by name: the form's constant. -/
def laid_unicode_utf8_first : DataW Unit := Go.Pinned.utf8First

/-- 'clerestorykeep1.SpanOrder': WHATEVER THE INPUT: true; the input reads as it did. -/
def spanOrderSpec : ChangeSpec := { name := "spanOrder", fn := fun _ => fun
  | [d1, d2, d3, d4] => { results := [.lit (.bool true)], args := [d1, d2, d3, d4] }
  | _ => none }
def spanOrderRow : OpenClaim := { program := "ytonnokjkapkbjaadoor", sum := "e0f233156ec7dc8aa141037bb857bfbec8d1d42ed084bdc93e1c1b4156c7e69a", func := "clerestory/clerestorykeep1.SpanOrder", spec := "spanOrder", inPlace := ["internal/bytealg.IndexByteString", "internal/bytealg.IndexString", "slices.overlaps[int]"], unfollowed := true, recurses := true, named := ["unicode/utf8.first", "unicode/utf8.acceptRanges", "internal/bytealg.MaxLen"], apart := false, laid := [("unicode/utf8.acceptRanges", laid_unicode_utf8_acceptRanges), ("unicode/utf8.first", laid_unicode_utf8_first)] }
def SpanOrderSaid : Prop := spanOrderRow.holds Tryd.pinned (OpenSpec.ofChange spanOrderSpec)

/-- ITS FALSE NEIGHBOUR: 'it returns false'. Refute it at one input. -/
def spanOrderWrong : ChangeSpec := { name := "spanOrder", fn := fun _ => fun
  | [d1, d2, d3, d4] => { results := [.lit (.bool false)], args := [d1, d2, d3, d4] }
  | _ => none }
def SpanOrderWrongFalsely : Prop := spanOrderRow.holds Tryd.pinned (OpenSpec.ofChange spanOrderWrong)

/-- 'clerestorykeep1.SpanStays': WHATEVER THE INPUT: true; the input reads as it did. -/
def spanStaysSpec : ChangeSpec := { name := "spanStays", fn := fun _ => fun
  | [d1, d2, d3] => { results := [.lit (.bool true)], args := [d1, d2, d3] }
  | _ => none }
def spanStaysRow : OpenClaim := { program := "ytonnokjkapkbjaadoor", sum := "e0f233156ec7dc8aa141037bb857bfbec8d1d42ed084bdc93e1c1b4156c7e69a", func := "clerestory/clerestorykeep1.SpanStays", spec := "spanStays", inPlace := ["internal/bytealg.IndexByteString", "internal/bytealg.IndexString", "slices.overlaps[int]"], unfollowed := true, recurses := true, named := ["unicode/utf8.first", "unicode/utf8.acceptRanges", "internal/bytealg.MaxLen"], apart := false, laid := [("unicode/utf8.acceptRanges", laid_unicode_utf8_acceptRanges), ("unicode/utf8.first", laid_unicode_utf8_first)] }
def SpanStaysSaid : Prop := spanStaysRow.holds Tryd.pinned (OpenSpec.ofChange spanStaysSpec)

/-- ITS FALSE NEIGHBOUR: 'it returns false'. Refute it at one input. -/
def spanStaysWrong : ChangeSpec := { name := "spanStays", fn := fun _ => fun
  | [d1, d2, d3] => { results := [.lit (.bool false)], args := [d1, d2, d3] }
  | _ => none }
def SpanStaysWrongFalsely : Prop := spanStaysRow.holds Tryd.pinned (OpenSpec.ofChange spanStaysWrong)

/-- 'clerestorykeep1.SerialParts': WHATEVER THE INPUT: true; the input reads as it did. -/
def serialPartsSpec : ChangeSpec := { name := "serialParts", fn := fun _ => fun
  | [d1, d2] => { results := [.lit (.bool true)], args := [d1, d2] }
  | _ => none }
def serialPartsRow : OpenClaim := { program := "ytonnokjkapkbjaadoor", sum := "e0f233156ec7dc8aa141037bb857bfbec8d1d42ed084bdc93e1c1b4156c7e69a", func := "clerestory/clerestorykeep1.SerialParts", spec := "serialParts", inPlace := ["internal/bytealg.IndexByteString", "internal/bytealg.IndexString", "internal/abi.NoEscape", "internal/bytealg.CountString", "internal/bytealg.MakeNoZero"], unfollowed := true, recurses := true, named := ["unicode/utf8.first", "unicode/utf8.acceptRanges", "internal/bytealg.MaxLen"], apart := false, laid := [("unicode/utf8.acceptRanges", laid_unicode_utf8_acceptRanges), ("unicode/utf8.first", laid_unicode_utf8_first)] }
def SerialPartsSaid : Prop := serialPartsRow.holds Tryd.pinned (OpenSpec.ofChange serialPartsSpec)

/-- ITS FALSE NEIGHBOUR: 'it returns false'. Refute it at one input. -/
def serialPartsWrong : ChangeSpec := { name := "serialParts", fn := fun _ => fun
  | [d1, d2] => { results := [.lit (.bool false)], args := [d1, d2] }
  | _ => none }
def SerialPartsWrongFalsely : Prop := serialPartsRow.holds Tryd.pinned (OpenSpec.ofChange serialPartsWrong)

/-- 'clerestorykeep1.SpanParts': WHATEVER THE INPUT: true; the input reads as it did. -/
def spanPartsSpec : ChangeSpec := { name := "spanParts", fn := fun _ => fun
  | [d1, d2, d3] => { results := [.lit (.bool true)], args := [d1, d2, d3] }
  | _ => none }
def spanPartsRow : OpenClaim := { program := "ytonnokjkapkbjaadoor", sum := "e0f233156ec7dc8aa141037bb857bfbec8d1d42ed084bdc93e1c1b4156c7e69a", func := "clerestory/clerestorykeep1.SpanParts", spec := "spanParts", inPlace := ["internal/bytealg.IndexByteString", "internal/bytealg.IndexString", "slices.overlaps[int]"], unfollowed := true, recurses := true, named := ["unicode/utf8.first", "unicode/utf8.acceptRanges", "internal/bytealg.MaxLen"], apart := false, laid := [("unicode/utf8.acceptRanges", laid_unicode_utf8_acceptRanges), ("unicode/utf8.first", laid_unicode_utf8_first)] }
def SpanPartsSaid : Prop := spanPartsRow.holds Tryd.pinned (OpenSpec.ofChange spanPartsSpec)

/-- ITS FALSE NEIGHBOUR: 'it returns false'. Refute it at one input. -/
def spanPartsWrong : ChangeSpec := { name := "spanParts", fn := fun _ => fun
  | [d1, d2, d3] => { results := [.lit (.bool false)], args := [d1, d2, d3] }
  | _ => none }
def SpanPartsWrongFalsely : Prop := spanPartsRow.holds Tryd.pinned (OpenSpec.ofChange spanPartsWrong)

/-- 'clerestorykeep1.SerialLines': WHATEVER THE INPUT: true; the input reads as it did. -/
def serialLinesSpec : ChangeSpec := { name := "serialLines", fn := fun _ => fun
  | [d1, d2, d3] => { results := [.lit (.bool true)], args := [d1, d2, d3] }
  | _ => none }
def serialLinesRow : OpenClaim := { program := "ytonnokjkapkbjaadoor", sum := "e0f233156ec7dc8aa141037bb857bfbec8d1d42ed084bdc93e1c1b4156c7e69a", func := "clerestory/clerestorykeep1.SerialLines", spec := "serialLines", inPlace := ["internal/bytealg.IndexByteString", "internal/bytealg.IndexString", "internal/abi.NoEscape", "internal/bytealg.MakeNoZero", "internal/bytealg.CountString"], unfollowed := true, recurses := true, named := ["unicode/utf8.first", "unicode/utf8.acceptRanges", "internal/bytealg.MaxLen"], apart := false, laid := [("unicode/utf8.acceptRanges", laid_unicode_utf8_acceptRanges), ("unicode/utf8.first", laid_unicode_utf8_first)] }
def SerialLinesSaid : Prop := serialLinesRow.holds Tryd.pinned (OpenSpec.ofChange serialLinesSpec)

/-- ITS FALSE NEIGHBOUR: 'it returns false'. Refute it at one input. -/
def serialLinesWrong : ChangeSpec := { name := "serialLines", fn := fun _ => fun
  | [d1, d2, d3] => { results := [.lit (.bool false)], args := [d1, d2, d3] }
  | _ => none }
def SerialLinesWrongFalsely : Prop := serialLinesRow.holds Tryd.pinned (OpenSpec.ofChange serialLinesWrong)

/-- 'clerestorykeep1.SpanCut': WHATEVER THE INPUT: true; the input reads as it did. -/
def spanCutSpec : ChangeSpec := { name := "spanCut", fn := fun _ => fun
  | [d1, d2] => { results := [.lit (.bool true)], args := [d1, d2] }
  | _ => none }
def spanCutRow : OpenClaim := { program := "ytonnokjkapkbjaadoor", sum := "e0f233156ec7dc8aa141037bb857bfbec8d1d42ed084bdc93e1c1b4156c7e69a", func := "clerestory/clerestorykeep1.SpanCut", spec := "spanCut", inPlace := ["internal/bytealg.IndexByteString", "internal/bytealg.IndexString", "slices.overlaps[int]"], unfollowed := true, recurses := true, named := ["unicode/utf8.first", "unicode/utf8.acceptRanges", "internal/bytealg.MaxLen"], apart := false, laid := [("unicode/utf8.acceptRanges", laid_unicode_utf8_acceptRanges), ("unicode/utf8.first", laid_unicode_utf8_first)] }
def SpanCutSaid : Prop := spanCutRow.holds Tryd.pinned (OpenSpec.ofChange spanCutSpec)

/-- ITS FALSE NEIGHBOUR: 'it returns false'. Refute it at one input. -/
def spanCutWrong : ChangeSpec := { name := "spanCut", fn := fun _ => fun
  | [d1, d2] => { results := [.lit (.bool false)], args := [d1, d2] }
  | _ => none }
def SpanCutWrongFalsely : Prop := spanCutRow.holds Tryd.pinned (OpenSpec.ofChange spanCutWrong)

/- THE SECOND FORM. 'bulk': how many values and letters a reading holds, each counted each time it is reached (what is shared counts as often as it is met; a slice's spare places count too). A statement '..UptoSaid' is the law's where the arguments, and the package variables that the reading takes, are together of bulk at most 1048576: NARROWER than '..Said'. Prove '..Said' where nothing that the law and all that it calls make is longer than what came in: it says more and counts as full. Else prove '..UptoSaid'. A law counts once. -/
mutual
def uptoBulk {H : Type} : DataW H → Nat
  | .lit (.string bytes) => bytes.length + 1
  | .lit _ => 1
  | .nil => 1
  | .ptr d => uptoBulk d + 1
  | .slice elems spare => uptoBulkAll elems + uptoBulkAll spare + 1
  | .agg parts => uptoBulkAll parts + 1
  | .iface _ d => uptoBulk d + 1
  | .map entries => uptoBulkEntries entries + 1
  | .held _ => 1
def uptoBulkAll {H : Type} : List (DataW H) → Nat
  | [] => 0
  | d :: r => uptoBulk d + uptoBulkAll r
def uptoBulkEntries {H : Type} : List (Lit × DataW H) → Nat
  | [] => 0
  | x :: r => uptoBulkEntry x + uptoBulkEntries r
def uptoBulkEntry {H : Type} : Lit × DataW H → Nat
  | (.string bytes, d) => bytes.length + uptoBulk d + 1
  | (_, d) => uptoBulk d + 1
 end
def uptoSmall : (H : Type) → List (DataW H) → Bool := fun _ ds => decide (uptoBulkAll ds ≤ 1048576)
def OpenSpec.upto (s : _root_.Go.ChangeSpec) : _root_.Go.OpenSpec := { _root_.Go.OpenSpec.ofChange s with cond := some uptoSmall }

/-- 'clerestorykeep1.SpanOrder', WHERE WHAT IT READS IS OF BULK AT MOST 1048576: true; the input reads as it did. -/
def spanOrderUptoRow : OpenClaim := { program := "ytonnokjkapkbjaadoor", sum := "e0f233156ec7dc8aa141037bb857bfbec8d1d42ed084bdc93e1c1b4156c7e69a", func := "clerestory/clerestorykeep1.SpanOrder", spec := "spanOrder", inPlace := ["internal/bytealg.IndexByteString", "internal/bytealg.IndexString", "slices.overlaps[int]"], unfollowed := true, recurses := true, named := ["unicode/utf8.first", "unicode/utf8.acceptRanges", "internal/bytealg.MaxLen"], apart := false, laid := [("unicode/utf8.acceptRanges", laid_unicode_utf8_acceptRanges), ("unicode/utf8.first", laid_unicode_utf8_first)], narrowed := true }
def SpanOrderUptoSaid : Prop := spanOrderUptoRow.holds Tryd.pinned (OpenSpec.upto spanOrderSpec)

/-- 'clerestorykeep1.SpanStays', WHERE WHAT IT READS IS OF BULK AT MOST 1048576: true; the input reads as it did. -/
def spanStaysUptoRow : OpenClaim := { program := "ytonnokjkapkbjaadoor", sum := "e0f233156ec7dc8aa141037bb857bfbec8d1d42ed084bdc93e1c1b4156c7e69a", func := "clerestory/clerestorykeep1.SpanStays", spec := "spanStays", inPlace := ["internal/bytealg.IndexByteString", "internal/bytealg.IndexString", "slices.overlaps[int]"], unfollowed := true, recurses := true, named := ["unicode/utf8.first", "unicode/utf8.acceptRanges", "internal/bytealg.MaxLen"], apart := false, laid := [("unicode/utf8.acceptRanges", laid_unicode_utf8_acceptRanges), ("unicode/utf8.first", laid_unicode_utf8_first)], narrowed := true }
def SpanStaysUptoSaid : Prop := spanStaysUptoRow.holds Tryd.pinned (OpenSpec.upto spanStaysSpec)

/-- 'clerestorykeep1.SerialParts', WHERE WHAT IT READS IS OF BULK AT MOST 1048576: true; the input reads as it did. -/
def serialPartsUptoRow : OpenClaim := { program := "ytonnokjkapkbjaadoor", sum := "e0f233156ec7dc8aa141037bb857bfbec8d1d42ed084bdc93e1c1b4156c7e69a", func := "clerestory/clerestorykeep1.SerialParts", spec := "serialParts", inPlace := ["internal/bytealg.IndexByteString", "internal/bytealg.IndexString", "internal/abi.NoEscape", "internal/bytealg.CountString", "internal/bytealg.MakeNoZero"], unfollowed := true, recurses := true, named := ["unicode/utf8.first", "unicode/utf8.acceptRanges", "internal/bytealg.MaxLen"], apart := false, laid := [("unicode/utf8.acceptRanges", laid_unicode_utf8_acceptRanges), ("unicode/utf8.first", laid_unicode_utf8_first)], narrowed := true }
def SerialPartsUptoSaid : Prop := serialPartsUptoRow.holds Tryd.pinned (OpenSpec.upto serialPartsSpec)

/-- 'clerestorykeep1.SpanParts', WHERE WHAT IT READS IS OF BULK AT MOST 1048576: true; the input reads as it did. -/
def spanPartsUptoRow : OpenClaim := { program := "ytonnokjkapkbjaadoor", sum := "e0f233156ec7dc8aa141037bb857bfbec8d1d42ed084bdc93e1c1b4156c7e69a", func := "clerestory/clerestorykeep1.SpanParts", spec := "spanParts", inPlace := ["internal/bytealg.IndexByteString", "internal/bytealg.IndexString", "slices.overlaps[int]"], unfollowed := true, recurses := true, named := ["unicode/utf8.first", "unicode/utf8.acceptRanges", "internal/bytealg.MaxLen"], apart := false, laid := [("unicode/utf8.acceptRanges", laid_unicode_utf8_acceptRanges), ("unicode/utf8.first", laid_unicode_utf8_first)], narrowed := true }
def SpanPartsUptoSaid : Prop := spanPartsUptoRow.holds Tryd.pinned (OpenSpec.upto spanPartsSpec)

/-- 'clerestorykeep1.SerialLines', WHERE WHAT IT READS IS OF BULK AT MOST 1048576: true; the input reads as it did. -/
def serialLinesUptoRow : OpenClaim := { program := "ytonnokjkapkbjaadoor", sum := "e0f233156ec7dc8aa141037bb857bfbec8d1d42ed084bdc93e1c1b4156c7e69a", func := "clerestory/clerestorykeep1.SerialLines", spec := "serialLines", inPlace := ["internal/bytealg.IndexByteString", "internal/bytealg.IndexString", "internal/abi.NoEscape", "internal/bytealg.MakeNoZero", "internal/bytealg.CountString"], unfollowed := true, recurses := true, named := ["unicode/utf8.first", "unicode/utf8.acceptRanges", "internal/bytealg.MaxLen"], apart := false, laid := [("unicode/utf8.acceptRanges", laid_unicode_utf8_acceptRanges), ("unicode/utf8.first", laid_unicode_utf8_first)], narrowed := true }
def SerialLinesUptoSaid : Prop := serialLinesUptoRow.holds Tryd.pinned (OpenSpec.upto serialLinesSpec)

/-- 'clerestorykeep1.SpanCut', WHERE WHAT IT READS IS OF BULK AT MOST 1048576: true; the input reads as it did. -/
def spanCutUptoRow : OpenClaim := { program := "ytonnokjkapkbjaadoor", sum := "e0f233156ec7dc8aa141037bb857bfbec8d1d42ed084bdc93e1c1b4156c7e69a", func := "clerestory/clerestorykeep1.SpanCut", spec := "spanCut", inPlace := ["internal/bytealg.IndexByteString", "internal/bytealg.IndexString", "slices.overlaps[int]"], unfollowed := true, recurses := true, named := ["unicode/utf8.first", "unicode/utf8.acceptRanges", "internal/bytealg.MaxLen"], apart := false, laid := [("unicode/utf8.acceptRanges", laid_unicode_utf8_acceptRanges), ("unicode/utf8.first", laid_unicode_utf8_first)], narrowed := true }
def SpanCutUptoSaid : Prop := spanCutUptoRow.holds Tryd.pinned (OpenSpec.upto spanCutSpec)

end Rows
end Go.Proofs.YtonnokjkapkbjaaDoor
