/-
  NARROWER THAN 'FOR EVERY INPUT', by the rows' own cells (each row's printed sentence says how): TopRefused: laid · TopEnds: laid · TopRuns: laid · TopScored: laid · TopWhole: laid.
  DERIVED. THE GIVEN ROWS OF THIS SEAT. 5 by the template 'for every input the law returns true; each argument reads behind the call as it read before'; 0 by the template 'total and deterministic' (their statements: YtefohnbmifblkabDoorTotals.lean).
  GIVEN WITH THE SEED: the statements are not yours to turn. If you find one false, say at which input.
  Laid BY PROGRAM, IN A SANDBOX (cutbox-rows.mjs): the forced cells as the released guide's own fill.sh prints them over the translation 3c8f64f68be256b7… (all of the seat's roots in one cut). By AI agents, Wed Nov 11 2026. No macro, syntax, notation, axiom, sorry.
-/
import Derived.Test.YtefohnbmifblkabDoorChecked
import GoSem.PinnedTables
import GoSem.Claim
import GoSem.ClaimJoined
import GoSem.ClaimMapViews
import Derived.JoinedTies
import Derived.KernelRfl
namespace Go.Proofs.YtefohnbmifblkabDoor
/- THE CELL 'sum', in the pinned program and in every row, IS THE sha256 OF THE DUMP (.gsa) THAT YtefohnbmifblkabDoorProg.lean LOADS. Nothing in Lean hashes anything: it is a label: what it is worth is what the hold of that sum in a sandbox is worth. -/
noncomputable def Tryd.pinned : Pinned := { name := "ytefohnbmifblkabdoor", sum := "3c8f64f68be256b7a9a863cb453802c610ac33b61f46f08b98a86e551577573a", checked := Tryd.checked }
namespace Rows
def none {H : Type} : Left H := { results := [], args := [] }

/- WHAT THE LISTED PACKAGE-LEVEL VARIABLES READ AS WHEN THE CALL BEGINS. Each datum BY PROGRAM (the guide's laid-datum.mjs) off the statement by which the dump's own 'gosem.cut.vars' lays the variable. In a bare row this is a premise. The card (YtefohnbmifblkabDoorCards.lean) ties it to the program's text. -/
def laid_unicode_utf8_acceptRanges {H : Type} : DataW H := .agg [.agg [.lit (.int .u8 128), .lit (.int .u8 191)], .agg [.lit (.int .u8 160), .lit (.int .u8 191)], .agg [.lit (.int .u8 128), .lit (.int .u8 159)], .agg [.lit (.int .u8 144), .lit (.int .u8 191)], .agg [.lit (.int .u8 128), .lit (.int .u8 143)], .agg [.lit (.int .u8 0), .lit (.int .u8 0)], .agg [.lit (.int .u8 0), .lit (.int .u8 0)], .agg [.lit (.int .u8 0), .lit (.int .u8 0)], .agg [.lit (.int .u8 0), .lit (.int .u8 0)], .agg [.lit (.int .u8 0), .lit (.int .u8 0)], .agg [.lit (.int .u8 0), .lit (.int .u8 0)], .agg [.lit (.int .u8 0), .lit (.int .u8 0)], .agg [.lit (.int .u8 0), .lit (.int .u8 0)], .agg [.lit (.int .u8 0), .lit (.int .u8 0)], .agg [.lit (.int .u8 0), .lit (.int .u8 0)], .agg [.lit (.int .u8 0), .lit (.int .u8 0)]]
def laid_plumbline_sniff_marks {H : Type} : DataW H := .agg [.lit (.string []), .lit (.string [239, 187, 191]), .lit (.string [255, 254]), .lit (.string [254, 255])]
def laid_plumbline_sniff_marked {H : Type} : DataW H := .agg [.lit (.int .i64 0), .lit (.int .i64 1), .lit (.int .i64 5), .lit (.int .i64 6)]
/-- One of Go's own tables, pinned by name: the form's constant. -/
def laid_unicode_utf8_first : DataW Unit := Go.Pinned.utf8First

/-- 'plumblinetop.TopRefused': WHATEVER THE INPUT: true; the input reads as it did. -/
def topRefusedSpec : ChangeSpec := { name := "topRefused", fn := fun _ => fun
  | [d1, d2, d3] => { results := [.lit (.bool true)], args := [d1, d2, d3] }
  | _ => none }
def topRefusedRow : OpenClaim := { program := "ytefohnbmifblkabdoor", sum := "3c8f64f68be256b7a9a863cb453802c610ac33b61f46f08b98a86e551577573a", func := "plumbline/plumblinetop.TopRefused", spec := "topRefused", inPlace := ["internal/bytealg.IndexByteString", "internal/bytealg.IndexString"], unfollowed := true, recurses := true, named := ["unicode/utf8.first", "unicode/utf8.acceptRanges", "plumbline/sniff.marks", "plumbline/sniff.marked", "internal/bytealg.MaxLen"], apart := false, laid := [("unicode/utf8.acceptRanges", laid_unicode_utf8_acceptRanges), ("plumbline/sniff.marks", laid_plumbline_sniff_marks), ("plumbline/sniff.marked", laid_plumbline_sniff_marked), ("unicode/utf8.first", laid_unicode_utf8_first)] }
def TopRefusedSaid : Prop := topRefusedRow.holds Tryd.pinned (OpenSpec.ofChange topRefusedSpec)

/-- ITS FALSE NEIGHBOUR: 'it returns false'. Refute it at one input. -/
def topRefusedWrong : ChangeSpec := { name := "topRefused", fn := fun _ => fun
  | [d1, d2, d3] => { results := [.lit (.bool false)], args := [d1, d2, d3] }
  | _ => none }
def TopRefusedWrongFalsely : Prop := topRefusedRow.holds Tryd.pinned (OpenSpec.ofChange topRefusedWrong)

/-- 'plumblinetop.TopEnds': WHATEVER THE INPUT: true; the input reads as it did. -/
def topEndsSpec : ChangeSpec := { name := "topEnds", fn := fun _ => fun
  | [d1, d2, d3] => { results := [.lit (.bool true)], args := [d1, d2, d3] }
  | _ => none }
def topEndsRow : OpenClaim := { program := "ytefohnbmifblkabdoor", sum := "3c8f64f68be256b7a9a863cb453802c610ac33b61f46f08b98a86e551577573a", func := "plumbline/plumblinetop.TopEnds", spec := "topEnds", inPlace := ["internal/bytealg.IndexByteString", "internal/bytealg.IndexString"], unfollowed := true, recurses := true, named := ["unicode/utf8.first", "unicode/utf8.acceptRanges", "plumbline/sniff.marks", "plumbline/sniff.marked", "internal/bytealg.MaxLen"], apart := false, laid := [("unicode/utf8.acceptRanges", laid_unicode_utf8_acceptRanges), ("plumbline/sniff.marks", laid_plumbline_sniff_marks), ("plumbline/sniff.marked", laid_plumbline_sniff_marked), ("unicode/utf8.first", laid_unicode_utf8_first)] }
def TopEndsSaid : Prop := topEndsRow.holds Tryd.pinned (OpenSpec.ofChange topEndsSpec)

/-- ITS FALSE NEIGHBOUR: 'it returns false'. Refute it at one input. -/
def topEndsWrong : ChangeSpec := { name := "topEnds", fn := fun _ => fun
  | [d1, d2, d3] => { results := [.lit (.bool false)], args := [d1, d2, d3] }
  | _ => none }
def TopEndsWrongFalsely : Prop := topEndsRow.holds Tryd.pinned (OpenSpec.ofChange topEndsWrong)

/-- 'plumblinetop.TopRuns': WHATEVER THE INPUT: true; the input reads as it did. -/
def topRunsSpec : ChangeSpec := { name := "topRuns", fn := fun _ => fun
  | [d1, d2, d3] => { results := [.lit (.bool true)], args := [d1, d2, d3] }
  | _ => none }
def topRunsRow : OpenClaim := { program := "ytefohnbmifblkabdoor", sum := "3c8f64f68be256b7a9a863cb453802c610ac33b61f46f08b98a86e551577573a", func := "plumbline/plumblinetop.TopRuns", spec := "topRuns", inPlace := ["internal/bytealg.IndexByteString", "internal/bytealg.IndexString"], named := ["unicode/utf8.first", "unicode/utf8.acceptRanges", "plumbline/sniff.marks", "plumbline/sniff.marked", "internal/bytealg.MaxLen"], apart := false, laid := [("unicode/utf8.acceptRanges", laid_unicode_utf8_acceptRanges), ("plumbline/sniff.marks", laid_plumbline_sniff_marks), ("plumbline/sniff.marked", laid_plumbline_sniff_marked), ("unicode/utf8.first", laid_unicode_utf8_first)] }
def TopRunsSaid : Prop := topRunsRow.holds Tryd.pinned (OpenSpec.ofChange topRunsSpec)

/-- ITS FALSE NEIGHBOUR: 'it returns false'. Refute it at one input. -/
def topRunsWrong : ChangeSpec := { name := "topRuns", fn := fun _ => fun
  | [d1, d2, d3] => { results := [.lit (.bool false)], args := [d1, d2, d3] }
  | _ => none }
def TopRunsWrongFalsely : Prop := topRunsRow.holds Tryd.pinned (OpenSpec.ofChange topRunsWrong)

/-- 'plumblinetop.TopScored': WHATEVER THE INPUT: true; the input reads as it did. -/
def topScoredSpec : ChangeSpec := { name := "topScored", fn := fun _ => fun
  | [d1, d2] => { results := [.lit (.bool true)], args := [d1, d2] }
  | _ => none }
def topScoredRow : OpenClaim := { program := "ytefohnbmifblkabdoor", sum := "3c8f64f68be256b7a9a863cb453802c610ac33b61f46f08b98a86e551577573a", func := "plumbline/plumblinetop.TopScored", spec := "topScored", inPlace := ["internal/bytealg.IndexByteString", "internal/bytealg.IndexString"], unfollowed := true, recurses := true, named := ["unicode/utf8.first", "unicode/utf8.acceptRanges", "plumbline/sniff.marks", "plumbline/sniff.marked", "internal/bytealg.MaxLen"], apart := false, laid := [("unicode/utf8.acceptRanges", laid_unicode_utf8_acceptRanges), ("plumbline/sniff.marks", laid_plumbline_sniff_marks), ("plumbline/sniff.marked", laid_plumbline_sniff_marked), ("unicode/utf8.first", laid_unicode_utf8_first)] }
def TopScoredSaid : Prop := topScoredRow.holds Tryd.pinned (OpenSpec.ofChange topScoredSpec)

/-- ITS FALSE NEIGHBOUR: 'it returns false'. Refute it at one input. -/
def topScoredWrong : ChangeSpec := { name := "topScored", fn := fun _ => fun
  | [d1, d2] => { results := [.lit (.bool false)], args := [d1, d2] }
  | _ => none }
def TopScoredWrongFalsely : Prop := topScoredRow.holds Tryd.pinned (OpenSpec.ofChange topScoredWrong)

/-- 'plumblinetop.TopWhole': WHATEVER THE INPUT: true; the input reads as it did. -/
def topWholeSpec : ChangeSpec := { name := "topWhole", fn := fun _ => fun
  | [d1, d2] => { results := [.lit (.bool true)], args := [d1, d2] }
  | _ => none }
def topWholeRow : OpenClaim := { program := "ytefohnbmifblkabdoor", sum := "3c8f64f68be256b7a9a863cb453802c610ac33b61f46f08b98a86e551577573a", func := "plumbline/plumblinetop.TopWhole", spec := "topWhole", inPlace := ["internal/bytealg.IndexByteString", "internal/bytealg.IndexString"], unfollowed := true, recurses := true, named := ["unicode/utf8.first", "unicode/utf8.acceptRanges", "plumbline/sniff.marks", "plumbline/sniff.marked", "internal/bytealg.MaxLen"], apart := false, laid := [("unicode/utf8.acceptRanges", laid_unicode_utf8_acceptRanges), ("plumbline/sniff.marks", laid_plumbline_sniff_marks), ("plumbline/sniff.marked", laid_plumbline_sniff_marked), ("unicode/utf8.first", laid_unicode_utf8_first)] }
def TopWholeSaid : Prop := topWholeRow.holds Tryd.pinned (OpenSpec.ofChange topWholeSpec)

/-- ITS FALSE NEIGHBOUR: 'it returns false'. Refute it at one input. -/
def topWholeWrong : ChangeSpec := { name := "topWhole", fn := fun _ => fun
  | [d1, d2] => { results := [.lit (.bool false)], args := [d1, d2] }
  | _ => none }
def TopWholeWrongFalsely : Prop := topWholeRow.holds Tryd.pinned (OpenSpec.ofChange topWholeWrong)

/- THE SECOND FORM. 'bulk': how many values and letters a reading holds, each counted each time it is reached (what is shared counts as often as it is met; a slice's spare places count too). A statement '..UptoSaid' is the law's where the arguments, and the package variables that the reading takes, are together of bulk at most 1048576: NARROWER than '..Said'. Prove '..Said' where nothing that the law and all that it calls make is longer than what came in: it says more and counts as full. Else prove '..UptoSaid'. A law counts once. -/
mutual
def uptoBulk {H : Type} : DataW H → Nat
  | .lit (.string bytes) => bytes.length + 1
  | .lit _ => 1
  | .nil => 1
  | .ptr d => uptoBulk d + 1
  | .slice elems spare => uptoBulkAll elems + uptoBulkAll spare + 1
  | .agg parts => uptoBulkAll parts + 1
  | .iface _ d => uptoBulk d + 1
  | .map entries => uptoBulkEntries entries + 1
  | .held _ => 1
def uptoBulkAll {H : Type} : List (DataW H) → Nat
  | [] => 0
  | d :: r => uptoBulk d + uptoBulkAll r
def uptoBulkEntries {H : Type} : List (Lit × DataW H) → Nat
  | [] => 0
  | x :: r => uptoBulkEntry x + uptoBulkEntries r
def uptoBulkEntry {H : Type} : Lit × DataW H → Nat
  | (.string bytes, d) => bytes.length + uptoBulk d + 1
  | (_, d) => uptoBulk d + 1
 end
def uptoSmall : (H : Type) → List (DataW H) → Bool := fun _ ds => decide (uptoBulkAll ds ≤ 1048576)
def OpenSpec.upto (s : _root_.Go.ChangeSpec) : _root_.Go.OpenSpec := { _root_.Go.OpenSpec.ofChange s with cond := some uptoSmall }

/-- 'plumblinetop.TopRefused', WHERE WHAT IT READS IS OF BULK AT MOST 1048576: true; the input reads as it did. -/
def topRefusedUptoRow : OpenClaim := { program := "ytefohnbmifblkabdoor", sum := "3c8f64f68be256b7a9a863cb453802c610ac33b61f46f08b98a86e551577573a", func := "plumbline/plumblinetop.TopRefused", spec := "topRefused", inPlace := ["internal/bytealg.IndexByteString", "internal/bytealg.IndexString"], unfollowed := true, recurses := true, named := ["unicode/utf8.first", "unicode/utf8.acceptRanges", "plumbline/sniff.marks", "plumbline/sniff.marked", "internal/bytealg.MaxLen"], apart := false, laid := [("unicode/utf8.acceptRanges", laid_unicode_utf8_acceptRanges), ("plumbline/sniff.marks", laid_plumbline_sniff_marks), ("plumbline/sniff.marked", laid_plumbline_sniff_marked), ("unicode/utf8.first", laid_unicode_utf8_first)], narrowed := true }
def TopRefusedUptoSaid : Prop := topRefusedUptoRow.holds Tryd.pinned (OpenSpec.upto topRefusedSpec)

/-- 'plumblinetop.TopEnds', WHERE WHAT IT READS IS OF BULK AT MOST 1048576: true; the input reads as it did. -/
def topEndsUptoRow : OpenClaim := { program := "ytefohnbmifblkabdoor", sum := "3c8f64f68be256b7a9a863cb453802c610ac33b61f46f08b98a86e551577573a", func := "plumbline/plumblinetop.TopEnds", spec := "topEnds", inPlace := ["internal/bytealg.IndexByteString", "internal/bytealg.IndexString"], unfollowed := true, recurses := true, named := ["unicode/utf8.first", "unicode/utf8.acceptRanges", "plumbline/sniff.marks", "plumbline/sniff.marked", "internal/bytealg.MaxLen"], apart := false, laid := [("unicode/utf8.acceptRanges", laid_unicode_utf8_acceptRanges), ("plumbline/sniff.marks", laid_plumbline_sniff_marks), ("plumbline/sniff.marked", laid_plumbline_sniff_marked), ("unicode/utf8.first", laid_unicode_utf8_first)], narrowed := true }
def TopEndsUptoSaid : Prop := topEndsUptoRow.holds Tryd.pinned (OpenSpec.upto topEndsSpec)

/-- 'plumblinetop.TopRuns', WHERE WHAT IT READS IS OF BULK AT MOST 1048576: true; the input reads as it did. -/
def topRunsUptoRow : OpenClaim := { program := "ytefohnbmifblkabdoor", sum := "3c8f64f68be256b7a9a863cb453802c610ac33b61f46f08b98a86e551577573a", func := "plumbline/plumblinetop.TopRuns", spec := "topRuns", inPlace := ["internal/bytealg.IndexByteString", "internal/bytealg.IndexString"], named := ["unicode/utf8.first", "unicode/utf8.acceptRanges", "plumbline/sniff.marks", "plumbline/sniff.marked", "internal/bytealg.MaxLen"], apart := false, laid := [("unicode/utf8.acceptRanges", laid_unicode_utf8_acceptRanges), ("plumbline/sniff.marks", laid_plumbline_sniff_marks), ("plumbline/sniff.marked", laid_plumbline_sniff_marked), ("unicode/utf8.first", laid_unicode_utf8_first)], narrowed := true }
def TopRunsUptoSaid : Prop := topRunsUptoRow.holds Tryd.pinned (OpenSpec.upto topRunsSpec)

/-- 'plumblinetop.TopScored', WHERE WHAT IT READS IS OF BULK AT MOST 1048576: true; the input reads as it did. -/
def topScoredUptoRow : OpenClaim := { program := "ytefohnbmifblkabdoor", sum := "3c8f64f68be256b7a9a863cb453802c610ac33b61f46f08b98a86e551577573a", func := "plumbline/plumblinetop.TopScored", spec := "topScored", inPlace := ["internal/bytealg.IndexByteString", "internal/bytealg.IndexString"], unfollowed := true, recurses := true, named := ["unicode/utf8.first", "unicode/utf8.acceptRanges", "plumbline/sniff.marks", "plumbline/sniff.marked", "internal/bytealg.MaxLen"], apart := false, laid := [("unicode/utf8.acceptRanges", laid_unicode_utf8_acceptRanges), ("plumbline/sniff.marks", laid_plumbline_sniff_marks), ("plumbline/sniff.marked", laid_plumbline_sniff_marked), ("unicode/utf8.first", laid_unicode_utf8_first)], narrowed := true }
def TopScoredUptoSaid : Prop := topScoredUptoRow.holds Tryd.pinned (OpenSpec.upto topScoredSpec)

/-- 'plumblinetop.TopWhole', WHERE WHAT IT READS IS OF BULK AT MOST 1048576: true; the input reads as it did. -/
def topWholeUptoRow : OpenClaim := { program := "ytefohnbmifblkabdoor", sum := "3c8f64f68be256b7a9a863cb453802c610ac33b61f46f08b98a86e551577573a", func := "plumbline/plumblinetop.TopWhole", spec := "topWhole", inPlace := ["internal/bytealg.IndexByteString", "internal/bytealg.IndexString"], unfollowed := true, recurses := true, named := ["unicode/utf8.first", "unicode/utf8.acceptRanges", "plumbline/sniff.marks", "plumbline/sniff.marked", "internal/bytealg.MaxLen"], apart := false, laid := [("unicode/utf8.acceptRanges", laid_unicode_utf8_acceptRanges), ("plumbline/sniff.marks", laid_plumbline_sniff_marks), ("plumbline/sniff.marked", laid_plumbline_sniff_marked), ("unicode/utf8.first", laid_unicode_utf8_first)], narrowed := true }
def TopWholeUptoSaid : Prop := topWholeUptoRow.holds Tryd.pinned (OpenSpec.upto topWholeSpec)

end Rows
end Go.Proofs.YtefohnbmifblkabDoor
