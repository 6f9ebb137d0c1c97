/-
  NARROWER THAN 'FOR EVERY INPUT', by the rows' own cells (each row's printed sentence says how): FirstEntries: laid · FirstPads: laid · FirstMsgs: laid · FirstSizes: laid.
  DERIVED. THE GIVEN ROWS OF THIS SEAT. 4 by the template 'for every input the law returns true; each argument reads behind the call as it read before'; 0 by the template 'total and deterministic' (their statements: YthfaaoeecajkeaaDoorTotals.lean).
  GIVEN WITH THE SEED: the statements are not yours to turn. If you find one false, say at which input.
  Laid BY PROGRAM, IN A SANDBOX (cutbox-rows.mjs): the forced cells as the released guide's own fill.sh prints them over the translation 3c239c229715ecdf… (all of the seat's roots in one cut). By AI agents, Wed Nov 11 2026. No macro, syntax, notation, axiom, sorry.
-/
import Derived.Test.YthfaaoeecajkeaaDoorChecked
import GoSem.PinnedTables
import GoSem.Claim
import GoSem.ClaimJoined
import GoSem.ClaimMapViews
import Derived.JoinedTies
import Derived.KernelRfl
namespace Go.Proofs.YthfaaoeecajkeaaDoor
/- THE CELL 'sum', in the pinned program and in every row, IS THE sha256 OF THE DUMP (.gsa) THAT YthfaaoeecajkeaaDoorProg.lean LOADS. Nothing in Lean hashes anything: it is a label: what it is worth is what the hold of that sum in a sandbox is worth. -/
noncomputable def Tryd.pinned : Pinned := { name := "ythfaaoeecajkeaadoor", sum := "3c239c229715ecdf4a497435045730832e6144d4f4ea123bfa3f14ee94e56e23", checked := Tryd.checked }
namespace Rows
def none {H : Type} : Left H := { results := [], args := [] }

/- WHAT THE LISTED PACKAGE-LEVEL VARIABLES READ AS WHEN THE CALL BEGINS. Each datum BY PROGRAM (the guide's laid-datum.mjs) off the statement by which the dump's own 'gosem.cut.vars' lays the variable. In a bare row this is a premise. The card (YthfaaoeecajkeaaDoorCards.lean) ties it to the program's text. -/
def laid_unicode_utf8_acceptRanges {H : Type} : DataW H := .agg [.agg [.lit (.int .u8 128), .lit (.int .u8 191)], .agg [.lit (.int .u8 160), .lit (.int .u8 191)], .agg [.lit (.int .u8 128), .lit (.int .u8 159)], .agg [.lit (.int .u8 144), .lit (.int .u8 191)], .agg [.lit (.int .u8 128), .lit (.int .u8 143)], .agg [.lit (.int .u8 0), .lit (.int .u8 0)], .agg [.lit (.int .u8 0), .lit (.int .u8 0)], .agg [.lit (.int .u8 0), .lit (.int .u8 0)], .agg [.lit (.int .u8 0), .lit (.int .u8 0)], .agg [.lit (.int .u8 0), .lit (.int .u8 0)], .agg [.lit (.int .u8 0), .lit (.int .u8 0)], .agg [.lit (.int .u8 0), .lit (.int .u8 0)], .agg [.lit (.int .u8 0), .lit (.int .u8 0)], .agg [.lit (.int .u8 0), .lit (.int .u8 0)], .agg [.lit (.int .u8 0), .lit (.int .u8 0)], .agg [.lit (.int .u8 0), .lit (.int .u8 0)]]
/-- One of Go's own tables, pinned by name: the form's constant. -/
def laid_unicode_utf8_first : DataW Unit := Go.Pinned.utf8First

/-- 'pintlelaw05.FirstEntries': WHATEVER THE INPUT: true; the input reads as it did. -/
def firstEntriesSpec : ChangeSpec := { name := "firstEntries", fn := fun _ => fun
  | [d1, d2, d3, d4, d5, d6] => { results := [.lit (.bool true)], args := [d1, d2, d3, d4, d5, d6] }
  | _ => none }
def firstEntriesRow : OpenClaim := { program := "ythfaaoeecajkeaadoor", sum := "3c239c229715ecdf4a497435045730832e6144d4f4ea123bfa3f14ee94e56e23", func := "pintle/pintlelaw05.FirstEntries", spec := "firstEntries", inPlace := ["internal/bytealg.IndexByteString", "internal/bytealg.IndexString", "internal/abi.NoEscape", "internal/bytealg.MakeNoZero"], unfollowed := true, recurses := true, named := ["internal/bytealg.MaxLen", "unicode/utf8.first", "unicode/utf8.acceptRanges"], apart := false, laid := [("unicode/utf8.acceptRanges", laid_unicode_utf8_acceptRanges), ("unicode/utf8.first", laid_unicode_utf8_first)] }
def FirstEntriesSaid : Prop := firstEntriesRow.holds Tryd.pinned (OpenSpec.ofChange firstEntriesSpec)

/-- ITS FALSE NEIGHBOUR: 'it returns false'. Refute it at one input. -/
def firstEntriesWrong : ChangeSpec := { name := "firstEntries", fn := fun _ => fun
  | [d1, d2, d3, d4, d5, d6] => { results := [.lit (.bool false)], args := [d1, d2, d3, d4, d5, d6] }
  | _ => none }
def FirstEntriesWrongFalsely : Prop := firstEntriesRow.holds Tryd.pinned (OpenSpec.ofChange firstEntriesWrong)

/-- 'pintlelaw05.FirstPads': WHATEVER THE INPUT: true; the input reads as it did. -/
def firstPadsSpec : ChangeSpec := { name := "firstPads", fn := fun _ => fun
  | [d1, d2, d3] => { results := [.lit (.bool true)], args := [d1, d2, d3] }
  | _ => none }
def firstPadsRow : OpenClaim := { program := "ythfaaoeecajkeaadoor", sum := "3c239c229715ecdf4a497435045730832e6144d4f4ea123bfa3f14ee94e56e23", func := "pintle/pintlelaw05.FirstPads", spec := "firstPads", inPlace := ["internal/bytealg.IndexByteString", "internal/bytealg.IndexString", "internal/abi.NoEscape", "internal/bytealg.MakeNoZero"], unfollowed := true, recurses := true, named := ["internal/bytealg.MaxLen", "unicode/utf8.first", "unicode/utf8.acceptRanges"], apart := false, laid := [("unicode/utf8.acceptRanges", laid_unicode_utf8_acceptRanges), ("unicode/utf8.first", laid_unicode_utf8_first)] }
def FirstPadsSaid : Prop := firstPadsRow.holds Tryd.pinned (OpenSpec.ofChange firstPadsSpec)

/-- ITS FALSE NEIGHBOUR: 'it returns false'. Refute it at one input. -/
def firstPadsWrong : ChangeSpec := { name := "firstPads", fn := fun _ => fun
  | [d1, d2, d3] => { results := [.lit (.bool false)], args := [d1, d2, d3] }
  | _ => none }
def FirstPadsWrongFalsely : Prop := firstPadsRow.holds Tryd.pinned (OpenSpec.ofChange firstPadsWrong)

/-- 'pintlelaw05.FirstMsgs': WHATEVER THE INPUT: true; the input reads as it did. -/
def firstMsgsSpec : ChangeSpec := { name := "firstMsgs", fn := fun _ => fun
  | [d1, d2, d3, d4, d5] => { results := [.lit (.bool true)], args := [d1, d2, d3, d4, d5] }
  | _ => none }
def firstMsgsRow : OpenClaim := { program := "ythfaaoeecajkeaadoor", sum := "3c239c229715ecdf4a497435045730832e6144d4f4ea123bfa3f14ee94e56e23", func := "pintle/pintlelaw05.FirstMsgs", spec := "firstMsgs", inPlace := ["internal/bytealg.IndexByteString", "internal/bytealg.IndexString", "internal/abi.NoEscape", "internal/bytealg.MakeNoZero"], unfollowed := true, recurses := true, named := ["internal/bytealg.MaxLen", "unicode/utf8.first", "unicode/utf8.acceptRanges"], apart := false, laid := [("unicode/utf8.acceptRanges", laid_unicode_utf8_acceptRanges), ("unicode/utf8.first", laid_unicode_utf8_first)] }
def FirstMsgsSaid : Prop := firstMsgsRow.holds Tryd.pinned (OpenSpec.ofChange firstMsgsSpec)

/-- ITS FALSE NEIGHBOUR: 'it returns false'. Refute it at one input. -/
def firstMsgsWrong : ChangeSpec := { name := "firstMsgs", fn := fun _ => fun
  | [d1, d2, d3, d4, d5] => { results := [.lit (.bool false)], args := [d1, d2, d3, d4, d5] }
  | _ => none }
def FirstMsgsWrongFalsely : Prop := firstMsgsRow.holds Tryd.pinned (OpenSpec.ofChange firstMsgsWrong)

/-- 'pintlelaw05.FirstSizes': WHATEVER THE INPUT: true; the input reads as it did. -/
def firstSizesSpec : ChangeSpec := { name := "firstSizes", fn := fun _ => fun
  | [d1, d2, d3] => { results := [.lit (.bool true)], args := [d1, d2, d3] }
  | _ => none }
def firstSizesRow : OpenClaim := { program := "ythfaaoeecajkeaadoor", sum := "3c239c229715ecdf4a497435045730832e6144d4f4ea123bfa3f14ee94e56e23", func := "pintle/pintlelaw05.FirstSizes", spec := "firstSizes", inPlace := ["internal/bytealg.IndexByteString", "internal/bytealg.IndexString", "internal/abi.NoEscape", "internal/bytealg.MakeNoZero"], unfollowed := true, recurses := true, named := ["internal/bytealg.MaxLen", "unicode/utf8.first", "unicode/utf8.acceptRanges"], apart := false, laid := [("unicode/utf8.acceptRanges", laid_unicode_utf8_acceptRanges), ("unicode/utf8.first", laid_unicode_utf8_first)] }
def FirstSizesSaid : Prop := firstSizesRow.holds Tryd.pinned (OpenSpec.ofChange firstSizesSpec)

/-- ITS FALSE NEIGHBOUR: 'it returns false'. Refute it at one input. -/
def firstSizesWrong : ChangeSpec := { name := "firstSizes", fn := fun _ => fun
  | [d1, d2, d3] => { results := [.lit (.bool false)], args := [d1, d2, d3] }
  | _ => none }
def FirstSizesWrongFalsely : Prop := firstSizesRow.holds Tryd.pinned (OpenSpec.ofChange firstSizesWrong)

/- THE SECOND FORM. 'bulk': how many values and letters a reading holds, each counted each time it is reached (what is shared counts as often as it is met; a slice's spare places count too). A statement '..UptoSaid' is the law's where the arguments, and the package variables that the reading takes, are together of bulk at most 1048576: NARROWER than '..Said'. Prove '..Said' where nothing that the law and all that it calls make is longer than what came in: it says more and counts as full. Else prove '..UptoSaid'. A law counts once. -/
mutual
def uptoBulk {H : Type} : DataW H → Nat
  | .lit (.string bytes) => bytes.length + 1
  | .lit _ => 1
  | .nil => 1
  | .ptr d => uptoBulk d + 1
  | .slice elems spare => uptoBulkAll elems + uptoBulkAll spare + 1
  | .agg parts => uptoBulkAll parts + 1
  | .iface _ d => uptoBulk d + 1
  | .map entries => uptoBulkEntries entries + 1
  | .held _ => 1
def uptoBulkAll {H : Type} : List (DataW H) → Nat
  | [] => 0
  | d :: r => uptoBulk d + uptoBulkAll r
def uptoBulkEntries {H : Type} : List (Lit × DataW H) → Nat
  | [] => 0
  | x :: r => uptoBulkEntry x + uptoBulkEntries r
def uptoBulkEntry {H : Type} : Lit × DataW H → Nat
  | (.string bytes, d) => bytes.length + uptoBulk d + 1
  | (_, d) => uptoBulk d + 1
 end
def uptoSmall : (H : Type) → List (DataW H) → Bool := fun _ ds => decide (uptoBulkAll ds ≤ 1048576)
def OpenSpec.upto (s : _root_.Go.ChangeSpec) : _root_.Go.OpenSpec := { _root_.Go.OpenSpec.ofChange s with cond := some uptoSmall }

/-- 'pintlelaw05.FirstEntries', WHERE WHAT IT READS IS OF BULK AT MOST 1048576: true; the input reads as it did. -/
def firstEntriesUptoRow : OpenClaim := { program := "ythfaaoeecajkeaadoor", sum := "3c239c229715ecdf4a497435045730832e6144d4f4ea123bfa3f14ee94e56e23", func := "pintle/pintlelaw05.FirstEntries", spec := "firstEntries", inPlace := ["internal/bytealg.IndexByteString", "internal/bytealg.IndexString", "internal/abi.NoEscape", "internal/bytealg.MakeNoZero"], unfollowed := true, recurses := true, named := ["internal/bytealg.MaxLen", "unicode/utf8.first", "unicode/utf8.acceptRanges"], apart := false, laid := [("unicode/utf8.acceptRanges", laid_unicode_utf8_acceptRanges), ("unicode/utf8.first", laid_unicode_utf8_first)], narrowed := true }
def FirstEntriesUptoSaid : Prop := firstEntriesUptoRow.holds Tryd.pinned (OpenSpec.upto firstEntriesSpec)

/-- 'pintlelaw05.FirstPads', WHERE WHAT IT READS IS OF BULK AT MOST 1048576: true; the input reads as it did. -/
def firstPadsUptoRow : OpenClaim := { program := "ythfaaoeecajkeaadoor", sum := "3c239c229715ecdf4a497435045730832e6144d4f4ea123bfa3f14ee94e56e23", func := "pintle/pintlelaw05.FirstPads", spec := "firstPads", inPlace := ["internal/bytealg.IndexByteString", "internal/bytealg.IndexString", "internal/abi.NoEscape", "internal/bytealg.MakeNoZero"], unfollowed := true, recurses := true, named := ["internal/bytealg.MaxLen", "unicode/utf8.first", "unicode/utf8.acceptRanges"], apart := false, laid := [("unicode/utf8.acceptRanges", laid_unicode_utf8_acceptRanges), ("unicode/utf8.first", laid_unicode_utf8_first)], narrowed := true }
def FirstPadsUptoSaid : Prop := firstPadsUptoRow.holds Tryd.pinned (OpenSpec.upto firstPadsSpec)

/-- 'pintlelaw05.FirstMsgs', WHERE WHAT IT READS IS OF BULK AT MOST 1048576: true; the input reads as it did. -/
def firstMsgsUptoRow : OpenClaim := { program := "ythfaaoeecajkeaadoor", sum := "3c239c229715ecdf4a497435045730832e6144d4f4ea123bfa3f14ee94e56e23", func := "pintle/pintlelaw05.FirstMsgs", spec := "firstMsgs", inPlace := ["internal/bytealg.IndexByteString", "internal/bytealg.IndexString", "internal/abi.NoEscape", "internal/bytealg.MakeNoZero"], unfollowed := true, recurses := true, named := ["internal/bytealg.MaxLen", "unicode/utf8.first", "unicode/utf8.acceptRanges"], apart := false, laid := [("unicode/utf8.acceptRanges", laid_unicode_utf8_acceptRanges), ("unicode/utf8.first", laid_unicode_utf8_first)], narrowed := true }
def FirstMsgsUptoSaid : Prop := firstMsgsUptoRow.holds Tryd.pinned (OpenSpec.upto firstMsgsSpec)

/-- 'pintlelaw05.FirstSizes', WHERE WHAT IT READS IS OF BULK AT MOST 1048576: true; the input reads as it did. -/
def firstSizesUptoRow : OpenClaim := { program := "ythfaaoeecajkeaadoor", sum := "3c239c229715ecdf4a497435045730832e6144d4f4ea123bfa3f14ee94e56e23", func := "pintle/pintlelaw05.FirstSizes", spec := "firstSizes", inPlace := ["internal/bytealg.IndexByteString", "internal/bytealg.IndexString", "internal/abi.NoEscape", "internal/bytealg.MakeNoZero"], unfollowed := true, recurses := true, named := ["internal/bytealg.MaxLen", "unicode/utf8.first", "unicode/utf8.acceptRanges"], apart := false, laid := [("unicode/utf8.acceptRanges", laid_unicode_utf8_acceptRanges), ("unicode/utf8.first", laid_unicode_utf8_first)], narrowed := true }
def FirstSizesUptoSaid : Prop := firstSizesUptoRow.holds Tryd.pinned (OpenSpec.upto firstSizesSpec)

end Rows
end Go.Proofs.YthfaaoeecajkeaaDoor
