/-
  NARROWER THAN 'FOR EVERY INPUT', by the rows' own cells (each row's printed sentence says how): WalkCommon: laid · IndexOnce: laid · DomBoth: laid · DomStays: laid · DomOrder: laid · DomCopy: laid.
  DERIVED. THE GIVEN ROWS OF THIS SEAT. 6 by the template 'for every input the law returns true; each argument reads behind the call as it read before'; 0 by the template 'total and deterministic' (their statements: YtaojbobbjnibhaaDoorTotals.lean).
  GIVEN WITH THE SEED: the statements are not yours to turn. If you find one false, say at which input.
  Laid BY PROGRAM, IN A SANDBOX (cutbox-rows.mjs): the forced cells as the released guide's own fill.sh prints them over the translation 6fab4c1cdf26c5a5… (all of the seat's roots in one cut). By AI agents, Wed Nov 11 2026. No macro, syntax, notation, axiom, sorry.
-/
import Derived.Test.YtaojbobbjnibhaaDoorChecked
import GoSem.PinnedTables
import GoSem.Claim
import GoSem.ClaimJoined
import GoSem.ClaimMapViews
import Derived.JoinedTies
import Derived.KernelRfl
namespace Go.Proofs.YtaojbobbjnibhaaDoor
/- THE CELL 'sum', in the pinned program and in every row, IS THE sha256 OF THE DUMP (.gsa) THAT YtaojbobbjnibhaaDoorProg.lean LOADS. Nothing in Lean hashes anything: it is a label: what it is worth is what the hold of that sum in a sandbox is worth. -/
noncomputable def Tryd.pinned : Pinned := { name := "ytaojbobbjnibhaadoor", sum := "6fab4c1cdf26c5a5a0c7e6137e1d0dcb6069ec1df004ad0ec4b65ba6fcc015b3", checked := Tryd.checked }
namespace Rows
def none {H : Type} : Left H := { results := [], args := [] }

/- WHAT THE LISTED PACKAGE-LEVEL VARIABLES READ AS WHEN THE CALL BEGINS. Each datum BY PROGRAM (the guide's laid-datum.mjs) off the statement by which the dump's own 'gosem.cut.vars' lays the variable. In a bare row this is a premise. The card (YtaojbobbjnibhaaDoorCards.lean) ties it to the program's text. -/
def laid_unicode_utf8_acceptRanges {H : Type} : DataW H := .agg [.agg [.lit (.int .u8 128), .lit (.int .u8 191)], .agg [.lit (.int .u8 160), .lit (.int .u8 191)], .agg [.lit (.int .u8 128), .lit (.int .u8 159)], .agg [.lit (.int .u8 144), .lit (.int .u8 191)], .agg [.lit (.int .u8 128), .lit (.int .u8 143)], .agg [.lit (.int .u8 0), .lit (.int .u8 0)], .agg [.lit (.int .u8 0), .lit (.int .u8 0)], .agg [.lit (.int .u8 0), .lit (.int .u8 0)], .agg [.lit (.int .u8 0), .lit (.int .u8 0)], .agg [.lit (.int .u8 0), .lit (.int .u8 0)], .agg [.lit (.int .u8 0), .lit (.int .u8 0)], .agg [.lit (.int .u8 0), .lit (.int .u8 0)], .agg [.lit (.int .u8 0), .lit (.int .u8 0)], .agg [.lit (.int .u8 0), .lit (.int .u8 0)], .agg [.lit (.int .u8 0), .lit (.int .u8 0)], .agg [.lit (.int .u8 0), .lit (.int .u8 0)]]
/-- One of Go's own tables, pinned by name: the form's constant. -/
def laid_unicode_utf8_first : DataW Unit := Go.Pinned.utf8First

/-- 'clerestorykeep1.WalkCommon': WHATEVER THE INPUT: true; the input reads as it did. -/
def walkCommonSpec : ChangeSpec := { name := "walkCommon", fn := fun _ => fun
  | [d1, d2, d3] => { results := [.lit (.bool true)], args := [d1, d2, d3] }
  | _ => none }
def walkCommonRow : OpenClaim := { program := "ytaojbobbjnibhaadoor", sum := "6fab4c1cdf26c5a5a0c7e6137e1d0dcb6069ec1df004ad0ec4b65ba6fcc015b3", func := "clerestory/clerestorykeep1.WalkCommon", spec := "walkCommon", inPlace := ["internal/bytealg.IndexByteString", "internal/bytealg.IndexString"], unfollowed := true, recurses := true, named := ["unicode/utf8.first", "unicode/utf8.acceptRanges", "internal/bytealg.MaxLen"], apart := false, laid := [("unicode/utf8.acceptRanges", laid_unicode_utf8_acceptRanges), ("unicode/utf8.first", laid_unicode_utf8_first)] }
def WalkCommonSaid : Prop := walkCommonRow.holds Tryd.pinned (OpenSpec.ofChange walkCommonSpec)

/-- ITS FALSE NEIGHBOUR: 'it returns false'. Refute it at one input. -/
def walkCommonWrong : ChangeSpec := { name := "walkCommon", fn := fun _ => fun
  | [d1, d2, d3] => { results := [.lit (.bool false)], args := [d1, d2, d3] }
  | _ => none }
def WalkCommonWrongFalsely : Prop := walkCommonRow.holds Tryd.pinned (OpenSpec.ofChange walkCommonWrong)

/-- 'clerestorykeep1.IndexOnce': WHATEVER THE INPUT: true; the input reads as it did. -/
def indexOnceSpec : ChangeSpec := { name := "indexOnce", fn := fun _ => fun
  | [d] => { results := [.lit (.bool true)], args := [d] }
  | _ => none }
def indexOnceRow : OpenClaim := { program := "ytaojbobbjnibhaadoor", sum := "6fab4c1cdf26c5a5a0c7e6137e1d0dcb6069ec1df004ad0ec4b65ba6fcc015b3", func := "clerestory/clerestorykeep1.IndexOnce", spec := "indexOnce", inPlace := ["internal/bytealg.IndexByteString", "internal/bytealg.IndexString", "slices.overlaps[clerestory/api.HRef]", "slices.overlaps[int]"], unfollowed := true, recurses := true, named := ["unicode/utf8.first", "unicode/utf8.acceptRanges", "internal/bytealg.MaxLen"], apart := false, laid := [("unicode/utf8.acceptRanges", laid_unicode_utf8_acceptRanges), ("unicode/utf8.first", laid_unicode_utf8_first)] }
def IndexOnceSaid : Prop := indexOnceRow.holds Tryd.pinned (OpenSpec.ofChange indexOnceSpec)

/-- ITS FALSE NEIGHBOUR: 'it returns false'. Refute it at one input. -/
def indexOnceWrong : ChangeSpec := { name := "indexOnce", fn := fun _ => fun
  | [d] => { results := [.lit (.bool false)], args := [d] }
  | _ => none }
def IndexOnceWrongFalsely : Prop := indexOnceRow.holds Tryd.pinned (OpenSpec.ofChange indexOnceWrong)

/-- 'clerestorykeep1.DomBoth': WHATEVER THE INPUT: true; the input reads as it did. -/
def domBothSpec : ChangeSpec := { name := "domBoth", fn := fun _ => fun
  | [d1, d2, d3] => { results := [.lit (.bool true)], args := [d1, d2, d3] }
  | _ => none }
def domBothRow : OpenClaim := { program := "ytaojbobbjnibhaadoor", sum := "6fab4c1cdf26c5a5a0c7e6137e1d0dcb6069ec1df004ad0ec4b65ba6fcc015b3", func := "clerestory/clerestorykeep1.DomBoth", spec := "domBoth", inPlace := ["internal/bytealg.IndexByteString", "internal/bytealg.IndexString", "slices.overlaps[int]"], unfollowed := true, recurses := true, named := ["unicode/utf8.first", "unicode/utf8.acceptRanges", "internal/bytealg.MaxLen"], apart := false, laid := [("unicode/utf8.acceptRanges", laid_unicode_utf8_acceptRanges), ("unicode/utf8.first", laid_unicode_utf8_first)] }
def DomBothSaid : Prop := domBothRow.holds Tryd.pinned (OpenSpec.ofChange domBothSpec)

/-- ITS FALSE NEIGHBOUR: 'it returns false'. Refute it at one input. -/
def domBothWrong : ChangeSpec := { name := "domBoth", fn := fun _ => fun
  | [d1, d2, d3] => { results := [.lit (.bool false)], args := [d1, d2, d3] }
  | _ => none }
def DomBothWrongFalsely : Prop := domBothRow.holds Tryd.pinned (OpenSpec.ofChange domBothWrong)

/-- 'clerestorykeep1.DomStays': WHATEVER THE INPUT: true; the input reads as it did. -/
def domStaysSpec : ChangeSpec := { name := "domStays", fn := fun _ => fun
  | [d1, d2] => { results := [.lit (.bool true)], args := [d1, d2] }
  | _ => none }
def domStaysRow : OpenClaim := { program := "ytaojbobbjnibhaadoor", sum := "6fab4c1cdf26c5a5a0c7e6137e1d0dcb6069ec1df004ad0ec4b65ba6fcc015b3", func := "clerestory/clerestorykeep1.DomStays", spec := "domStays", inPlace := ["internal/bytealg.IndexByteString", "internal/bytealg.IndexString", "slices.overlaps[int]"], unfollowed := true, recurses := true, named := ["unicode/utf8.first", "unicode/utf8.acceptRanges", "internal/bytealg.MaxLen"], apart := false, laid := [("unicode/utf8.acceptRanges", laid_unicode_utf8_acceptRanges), ("unicode/utf8.first", laid_unicode_utf8_first)] }
def DomStaysSaid : Prop := domStaysRow.holds Tryd.pinned (OpenSpec.ofChange domStaysSpec)

/-- ITS FALSE NEIGHBOUR: 'it returns false'. Refute it at one input. -/
def domStaysWrong : ChangeSpec := { name := "domStays", fn := fun _ => fun
  | [d1, d2] => { results := [.lit (.bool false)], args := [d1, d2] }
  | _ => none }
def DomStaysWrongFalsely : Prop := domStaysRow.holds Tryd.pinned (OpenSpec.ofChange domStaysWrong)

/-- 'clerestorykeep1.DomOrder': WHATEVER THE INPUT: true; the input reads as it did. -/
def domOrderSpec : ChangeSpec := { name := "domOrder", fn := fun _ => fun
  | [d1, d2] => { results := [.lit (.bool true)], args := [d1, d2] }
  | _ => none }
def domOrderRow : OpenClaim := { program := "ytaojbobbjnibhaadoor", sum := "6fab4c1cdf26c5a5a0c7e6137e1d0dcb6069ec1df004ad0ec4b65ba6fcc015b3", func := "clerestory/clerestorykeep1.DomOrder", spec := "domOrder", inPlace := ["internal/bytealg.IndexByteString", "internal/bytealg.IndexString", "slices.overlaps[int]"], unfollowed := true, recurses := true, named := ["unicode/utf8.first", "unicode/utf8.acceptRanges", "internal/bytealg.MaxLen"], apart := false, laid := [("unicode/utf8.acceptRanges", laid_unicode_utf8_acceptRanges), ("unicode/utf8.first", laid_unicode_utf8_first)] }
def DomOrderSaid : Prop := domOrderRow.holds Tryd.pinned (OpenSpec.ofChange domOrderSpec)

/-- ITS FALSE NEIGHBOUR: 'it returns false'. Refute it at one input. -/
def domOrderWrong : ChangeSpec := { name := "domOrder", fn := fun _ => fun
  | [d1, d2] => { results := [.lit (.bool false)], args := [d1, d2] }
  | _ => none }
def DomOrderWrongFalsely : Prop := domOrderRow.holds Tryd.pinned (OpenSpec.ofChange domOrderWrong)

/-- 'clerestorykeep1.DomCopy': WHATEVER THE INPUT: true; the input reads as it did. -/
def domCopySpec : ChangeSpec := { name := "domCopy", fn := fun _ => fun
  | [d1, d2] => { results := [.lit (.bool true)], args := [d1, d2] }
  | _ => none }
def domCopyRow : OpenClaim := { program := "ytaojbobbjnibhaadoor", sum := "6fab4c1cdf26c5a5a0c7e6137e1d0dcb6069ec1df004ad0ec4b65ba6fcc015b3", func := "clerestory/clerestorykeep1.DomCopy", spec := "domCopy", inPlace := ["internal/bytealg.IndexByteString", "internal/bytealg.IndexString", "slices.overlaps[int]"], unfollowed := true, recurses := true, named := ["unicode/utf8.first", "unicode/utf8.acceptRanges", "internal/bytealg.MaxLen"], apart := false, laid := [("unicode/utf8.acceptRanges", laid_unicode_utf8_acceptRanges), ("unicode/utf8.first", laid_unicode_utf8_first)] }
def DomCopySaid : Prop := domCopyRow.holds Tryd.pinned (OpenSpec.ofChange domCopySpec)

/-- ITS FALSE NEIGHBOUR: 'it returns false'. Refute it at one input. -/
def domCopyWrong : ChangeSpec := { name := "domCopy", fn := fun _ => fun
  | [d1, d2] => { results := [.lit (.bool false)], args := [d1, d2] }
  | _ => none }
def DomCopyWrongFalsely : Prop := domCopyRow.holds Tryd.pinned (OpenSpec.ofChange domCopyWrong)

/- THE SECOND FORM. 'bulk': how many values and letters a reading holds, each counted each time it is reached (what is shared counts as often as it is met; a slice's spare places count too). A statement '..UptoSaid' is the law's where the arguments, and the package variables that the reading takes, are together of bulk at most 1048576: NARROWER than '..Said'. Prove '..Said' where nothing that the law and all that it calls make is longer than what came in: it says more and counts as full. Else prove '..UptoSaid'. A law counts once. -/
mutual
def uptoBulk {H : Type} : DataW H → Nat
  | .lit (.string bytes) => bytes.length + 1
  | .lit _ => 1
  | .nil => 1
  | .ptr d => uptoBulk d + 1
  | .slice elems spare => uptoBulkAll elems + uptoBulkAll spare + 1
  | .agg parts => uptoBulkAll parts + 1
  | .iface _ d => uptoBulk d + 1
  | .map entries => uptoBulkEntries entries + 1
  | .held _ => 1
def uptoBulkAll {H : Type} : List (DataW H) → Nat
  | [] => 0
  | d :: r => uptoBulk d + uptoBulkAll r
def uptoBulkEntries {H : Type} : List (Lit × DataW H) → Nat
  | [] => 0
  | x :: r => uptoBulkEntry x + uptoBulkEntries r
def uptoBulkEntry {H : Type} : Lit × DataW H → Nat
  | (.string bytes, d) => bytes.length + uptoBulk d + 1
  | (_, d) => uptoBulk d + 1
 end
def uptoSmall : (H : Type) → List (DataW H) → Bool := fun _ ds => decide (uptoBulkAll ds ≤ 1048576)
def OpenSpec.upto (s : _root_.Go.ChangeSpec) : _root_.Go.OpenSpec := { _root_.Go.OpenSpec.ofChange s with cond := some uptoSmall }

/-- 'clerestorykeep1.WalkCommon', WHERE WHAT IT READS IS OF BULK AT MOST 1048576: true; the input reads as it did. -/
def walkCommonUptoRow : OpenClaim := { program := "ytaojbobbjnibhaadoor", sum := "6fab4c1cdf26c5a5a0c7e6137e1d0dcb6069ec1df004ad0ec4b65ba6fcc015b3", func := "clerestory/clerestorykeep1.WalkCommon", spec := "walkCommon", inPlace := ["internal/bytealg.IndexByteString", "internal/bytealg.IndexString"], unfollowed := true, recurses := true, named := ["unicode/utf8.first", "unicode/utf8.acceptRanges", "internal/bytealg.MaxLen"], apart := false, laid := [("unicode/utf8.acceptRanges", laid_unicode_utf8_acceptRanges), ("unicode/utf8.first", laid_unicode_utf8_first)], narrowed := true }
def WalkCommonUptoSaid : Prop := walkCommonUptoRow.holds Tryd.pinned (OpenSpec.upto walkCommonSpec)

/-- 'clerestorykeep1.IndexOnce', WHERE WHAT IT READS IS OF BULK AT MOST 1048576: true; the input reads as it did. -/
def indexOnceUptoRow : OpenClaim := { program := "ytaojbobbjnibhaadoor", sum := "6fab4c1cdf26c5a5a0c7e6137e1d0dcb6069ec1df004ad0ec4b65ba6fcc015b3", func := "clerestory/clerestorykeep1.IndexOnce", spec := "indexOnce", inPlace := ["internal/bytealg.IndexByteString", "internal/bytealg.IndexString", "slices.overlaps[clerestory/api.HRef]", "slices.overlaps[int]"], unfollowed := true, recurses := true, named := ["unicode/utf8.first", "unicode/utf8.acceptRanges", "internal/bytealg.MaxLen"], apart := false, laid := [("unicode/utf8.acceptRanges", laid_unicode_utf8_acceptRanges), ("unicode/utf8.first", laid_unicode_utf8_first)], narrowed := true }
def IndexOnceUptoSaid : Prop := indexOnceUptoRow.holds Tryd.pinned (OpenSpec.upto indexOnceSpec)

/-- 'clerestorykeep1.DomBoth', WHERE WHAT IT READS IS OF BULK AT MOST 1048576: true; the input reads as it did. -/
def domBothUptoRow : OpenClaim := { program := "ytaojbobbjnibhaadoor", sum := "6fab4c1cdf26c5a5a0c7e6137e1d0dcb6069ec1df004ad0ec4b65ba6fcc015b3", func := "clerestory/clerestorykeep1.DomBoth", spec := "domBoth", inPlace := ["internal/bytealg.IndexByteString", "internal/bytealg.IndexString", "slices.overlaps[int]"], unfollowed := true, recurses := true, named := ["unicode/utf8.first", "unicode/utf8.acceptRanges", "internal/bytealg.MaxLen"], apart := false, laid := [("unicode/utf8.acceptRanges", laid_unicode_utf8_acceptRanges), ("unicode/utf8.first", laid_unicode_utf8_first)], narrowed := true }
def DomBothUptoSaid : Prop := domBothUptoRow.holds Tryd.pinned (OpenSpec.upto domBothSpec)

/-- 'clerestorykeep1.DomStays', WHERE WHAT IT READS IS OF BULK AT MOST 1048576: true; the input reads as it did. -/
def domStaysUptoRow : OpenClaim := { program := "ytaojbobbjnibhaadoor", sum := "6fab4c1cdf26c5a5a0c7e6137e1d0dcb6069ec1df004ad0ec4b65ba6fcc015b3", func := "clerestory/clerestorykeep1.DomStays", spec := "domStays", inPlace := ["internal/bytealg.IndexByteString", "internal/bytealg.IndexString", "slices.overlaps[int]"], unfollowed := true, recurses := true, named := ["unicode/utf8.first", "unicode/utf8.acceptRanges", "internal/bytealg.MaxLen"], apart := false, laid := [("unicode/utf8.acceptRanges", laid_unicode_utf8_acceptRanges), ("unicode/utf8.first", laid_unicode_utf8_first)], narrowed := true }
def DomStaysUptoSaid : Prop := domStaysUptoRow.holds Tryd.pinned (OpenSpec.upto domStaysSpec)

/-- 'clerestorykeep1.DomOrder', WHERE WHAT IT READS IS OF BULK AT MOST 1048576: true; the input reads as it did. -/
def domOrderUptoRow : OpenClaim := { program := "ytaojbobbjnibhaadoor", sum := "6fab4c1cdf26c5a5a0c7e6137e1d0dcb6069ec1df004ad0ec4b65ba6fcc015b3", func := "clerestory/clerestorykeep1.DomOrder", spec := "domOrder", inPlace := ["internal/bytealg.IndexByteString", "internal/bytealg.IndexString", "slices.overlaps[int]"], unfollowed := true, recurses := true, named := ["unicode/utf8.first", "unicode/utf8.acceptRanges", "internal/bytealg.MaxLen"], apart := false, laid := [("unicode/utf8.acceptRanges", laid_unicode_utf8_acceptRanges), ("unicode/utf8.first", laid_unicode_utf8_first)], narrowed := true }
def DomOrderUptoSaid : Prop := domOrderUptoRow.holds Tryd.pinned (OpenSpec.upto domOrderSpec)

/-- 'clerestorykeep1.DomCopy', WHERE WHAT IT READS IS OF BULK AT MOST 1048576: true; the input reads as it did. -/
def domCopyUptoRow : OpenClaim := { program := "ytaojbobbjnibhaadoor", sum := "6fab4c1cdf26c5a5a0c7e6137e1d0dcb6069ec1df004ad0ec4b65ba6fcc015b3", func := "clerestory/clerestorykeep1.DomCopy", spec := "domCopy", inPlace := ["internal/bytealg.IndexByteString", "internal/bytealg.IndexString", "slices.overlaps[int]"], unfollowed := true, recurses := true, named := ["unicode/utf8.first", "unicode/utf8.acceptRanges", "internal/bytealg.MaxLen"], apart := false, laid := [("unicode/utf8.acceptRanges", laid_unicode_utf8_acceptRanges), ("unicode/utf8.first", laid_unicode_utf8_first)], narrowed := true }
def DomCopyUptoSaid : Prop := domCopyUptoRow.holds Tryd.pinned (OpenSpec.upto domCopySpec)

end Rows
end Go.Proofs.YtaojbobbjnibhaaDoor
