/-
  NARROWER THAN 'FOR EVERY INPUT', by the rows' own cells (each row's printed sentence says how): SniffWindow: laid · SniffStays: laid · SniffTells: laid · DetectNil: laid · TopParts: laid · DetectPlays: laid · TopFinal: laid · DetectRuns: laid · TopSure: laid · DetectJudges: laid · TopMarks: laid · TopEnded: laid.
  DERIVED. THE GIVEN ROWS OF THIS SEAT. 12 by the template 'for every input the law returns true; each argument reads behind the call as it read before'; 0 by the template 'total and deterministic' (their statements: YtefohnbmifblkaaDoorTotals.lean).
  GIVEN WITH THE SEED: the statements are not yours to turn. If you find one false, say at which input.
  Laid BY PROGRAM, IN A SANDBOX (cutbox-rows.mjs): the forced cells as the released guide's own fill.sh prints them over the translation f71edb3b85c35466… (all of the seat's roots in one cut). By AI agents, Wed Nov 11 2026. No macro, syntax, notation, axiom, sorry.
-/
import Derived.Test.YtefohnbmifblkaaDoorChecked
import GoSem.PinnedTables
import GoSem.Claim
import GoSem.ClaimJoined
import GoSem.ClaimMapViews
import Derived.JoinedTies
import Derived.KernelRfl
namespace Go.Proofs.YtefohnbmifblkaaDoor
/- THE CELL 'sum', in the pinned program and in every row, IS THE sha256 OF THE DUMP (.gsa) THAT YtefohnbmifblkaaDoorProg.lean LOADS. Nothing in Lean hashes anything: it is a label: what it is worth is what the hold of that sum in a sandbox is worth. -/
noncomputable def Tryd.pinned : Pinned := { name := "ytefohnbmifblkaadoor", sum := "f71edb3b85c354662135af36332a973e7ed2aee3f8815139e0d3a7ab2e962ec5", checked := Tryd.checked }
namespace Rows
def none {H : Type} : Left H := { results := [], args := [] }

/- WHAT THE LISTED PACKAGE-LEVEL VARIABLES READ AS WHEN THE CALL BEGINS. Each datum BY PROGRAM (the guide's laid-datum.mjs) off the statement by which the dump's own 'gosem.cut.vars' lays the variable. In a bare row this is a premise. The card (YtefohnbmifblkaaDoorCards.lean) ties it to the program's text. -/
def laid_unicode_utf8_acceptRanges {H : Type} : DataW H := .agg [.agg [.lit (.int .u8 128), .lit (.int .u8 191)], .agg [.lit (.int .u8 160), .lit (.int .u8 191)], .agg [.lit (.int .u8 128), .lit (.int .u8 159)], .agg [.lit (.int .u8 144), .lit (.int .u8 191)], .agg [.lit (.int .u8 128), .lit (.int .u8 143)], .agg [.lit (.int .u8 0), .lit (.int .u8 0)], .agg [.lit (.int .u8 0), .lit (.int .u8 0)], .agg [.lit (.int .u8 0), .lit (.int .u8 0)], .agg [.lit (.int .u8 0), .lit (.int .u8 0)], .agg [.lit (.int .u8 0), .lit (.int .u8 0)], .agg [.lit (.int .u8 0), .lit (.int .u8 0)], .agg [.lit (.int .u8 0), .lit (.int .u8 0)], .agg [.lit (.int .u8 0), .lit (.int .u8 0)], .agg [.lit (.int .u8 0), .lit (.int .u8 0)], .agg [.lit (.int .u8 0), .lit (.int .u8 0)], .agg [.lit (.int .u8 0), .lit (.int .u8 0)]]
def laid_plumbline_sniff_marks {H : Type} : DataW H := .agg [.lit (.string []), .lit (.string [239, 187, 191]), .lit (.string [255, 254]), .lit (.string [254, 255])]
def laid_plumbline_sniff_marked {H : Type} : DataW H := .agg [.lit (.int .i64 0), .lit (.int .i64 1), .lit (.int .i64 5), .lit (.int .i64 6)]
/-- One of Go's own tables, pinned by name: the form's constant. -/
def laid_unicode_utf8_first : DataW Unit := Go.Pinned.utf8First

/-- 'plumblinekeep.SniffWindow': WHATEVER THE INPUT: true; the input reads as it did. -/
def sniffWindowSpec : ChangeSpec := { name := "sniffWindow", fn := fun _ => fun
  | [d1, d2] => { results := [.lit (.bool true)], args := [d1, d2] }
  | _ => none }
def sniffWindowRow : OpenClaim := { program := "ytefohnbmifblkaadoor", sum := "f71edb3b85c354662135af36332a973e7ed2aee3f8815139e0d3a7ab2e962ec5", func := "plumbline/plumblinekeep.SniffWindow", spec := "sniffWindow", inPlace := ["internal/bytealg.IndexByteString", "internal/bytealg.IndexString"], named := ["plumbline/sniff.marks", "plumbline/sniff.marked", "unicode/utf8.first", "unicode/utf8.acceptRanges", "internal/bytealg.MaxLen"], apart := false, laid := [("unicode/utf8.acceptRanges", laid_unicode_utf8_acceptRanges), ("plumbline/sniff.marks", laid_plumbline_sniff_marks), ("plumbline/sniff.marked", laid_plumbline_sniff_marked), ("unicode/utf8.first", laid_unicode_utf8_first)] }
def SniffWindowSaid : Prop := sniffWindowRow.holds Tryd.pinned (OpenSpec.ofChange sniffWindowSpec)

/-- ITS FALSE NEIGHBOUR: 'it returns false'. Refute it at one input. -/
def sniffWindowWrong : ChangeSpec := { name := "sniffWindow", fn := fun _ => fun
  | [d1, d2] => { results := [.lit (.bool false)], args := [d1, d2] }
  | _ => none }
def SniffWindowWrongFalsely : Prop := sniffWindowRow.holds Tryd.pinned (OpenSpec.ofChange sniffWindowWrong)

/-- 'plumblinekeep.SniffStays': WHATEVER THE INPUT: true; the input reads as it did. -/
def sniffStaysSpec : ChangeSpec := { name := "sniffStays", fn := fun _ => fun
  | [d1, d2] => { results := [.lit (.bool true)], args := [d1, d2] }
  | _ => none }
def sniffStaysRow : OpenClaim := { program := "ytefohnbmifblkaadoor", sum := "f71edb3b85c354662135af36332a973e7ed2aee3f8815139e0d3a7ab2e962ec5", func := "plumbline/plumblinekeep.SniffStays", spec := "sniffStays", inPlace := ["internal/bytealg.IndexByteString", "internal/bytealg.IndexString"], named := ["plumbline/sniff.marks", "plumbline/sniff.marked", "unicode/utf8.first", "unicode/utf8.acceptRanges", "internal/bytealg.MaxLen"], apart := false, laid := [("unicode/utf8.acceptRanges", laid_unicode_utf8_acceptRanges), ("plumbline/sniff.marks", laid_plumbline_sniff_marks), ("plumbline/sniff.marked", laid_plumbline_sniff_marked), ("unicode/utf8.first", laid_unicode_utf8_first)] }
def SniffStaysSaid : Prop := sniffStaysRow.holds Tryd.pinned (OpenSpec.ofChange sniffStaysSpec)

/-- ITS FALSE NEIGHBOUR: 'it returns false'. Refute it at one input. -/
def sniffStaysWrong : ChangeSpec := { name := "sniffStays", fn := fun _ => fun
  | [d1, d2] => { results := [.lit (.bool false)], args := [d1, d2] }
  | _ => none }
def SniffStaysWrongFalsely : Prop := sniffStaysRow.holds Tryd.pinned (OpenSpec.ofChange sniffStaysWrong)

/-- 'plumblinelaw.SniffTells': WHATEVER THE INPUT: true; the input reads as it did. -/
def sniffTellsSpec : ChangeSpec := { name := "sniffTells", fn := fun _ => fun
  | [d] => { results := [.lit (.bool true)], args := [d] }
  | _ => none }
def sniffTellsRow : OpenClaim := { program := "ytefohnbmifblkaadoor", sum := "f71edb3b85c354662135af36332a973e7ed2aee3f8815139e0d3a7ab2e962ec5", func := "plumbline/plumblinelaw.SniffTells", spec := "sniffTells", inPlace := ["internal/bytealg.IndexByteString", "internal/bytealg.IndexString", "internal/bytealg.CountString"], unfollowed := true, recurses := true, named := ["plumbline/sniff.marks", "plumbline/sniff.marked", "unicode/utf8.first", "unicode/utf8.acceptRanges", "internal/bytealg.MaxLen"], apart := false, laid := [("unicode/utf8.acceptRanges", laid_unicode_utf8_acceptRanges), ("plumbline/sniff.marks", laid_plumbline_sniff_marks), ("plumbline/sniff.marked", laid_plumbline_sniff_marked), ("unicode/utf8.first", laid_unicode_utf8_first)] }
def SniffTellsSaid : Prop := sniffTellsRow.holds Tryd.pinned (OpenSpec.ofChange sniffTellsSpec)

/-- ITS FALSE NEIGHBOUR: 'it returns false'. Refute it at one input. -/
def sniffTellsWrong : ChangeSpec := { name := "sniffTells", fn := fun _ => fun
  | [d] => { results := [.lit (.bool false)], args := [d] }
  | _ => none }
def SniffTellsWrongFalsely : Prop := sniffTellsRow.holds Tryd.pinned (OpenSpec.ofChange sniffTellsWrong)

/-- 'plumblinelaw.DetectNil': WHATEVER THE INPUT: true; the input reads as it did. -/
def detectNilSpec : ChangeSpec := { name := "detectNil", fn := fun _ => fun
  | [d] => { results := [.lit (.bool true)], args := [d] }
  | _ => none }
def detectNilRow : OpenClaim := { program := "ytefohnbmifblkaadoor", sum := "f71edb3b85c354662135af36332a973e7ed2aee3f8815139e0d3a7ab2e962ec5", func := "plumbline/plumblinelaw.DetectNil", spec := "detectNil", inPlace := ["internal/bytealg.IndexByteString", "internal/bytealg.IndexString"], named := ["plumbline/sniff.marks", "plumbline/sniff.marked", "unicode/utf8.first", "unicode/utf8.acceptRanges", "internal/bytealg.MaxLen"], apart := false, laid := [("unicode/utf8.acceptRanges", laid_unicode_utf8_acceptRanges), ("plumbline/sniff.marks", laid_plumbline_sniff_marks), ("plumbline/sniff.marked", laid_plumbline_sniff_marked), ("unicode/utf8.first", laid_unicode_utf8_first)] }
def DetectNilSaid : Prop := detectNilRow.holds Tryd.pinned (OpenSpec.ofChange detectNilSpec)

/-- ITS FALSE NEIGHBOUR: 'it returns false'. Refute it at one input. -/
def detectNilWrong : ChangeSpec := { name := "detectNil", fn := fun _ => fun
  | [d] => { results := [.lit (.bool false)], args := [d] }
  | _ => none }
def DetectNilWrongFalsely : Prop := detectNilRow.holds Tryd.pinned (OpenSpec.ofChange detectNilWrong)

/-- 'plumblinetop.TopParts': WHATEVER THE INPUT: true; the input reads as it did. -/
def topPartsSpec : ChangeSpec := { name := "topParts", fn := fun _ => fun
  | [d1, d2, d3] => { results := [.lit (.bool true)], args := [d1, d2, d3] }
  | _ => none }
def topPartsRow : OpenClaim := { program := "ytefohnbmifblkaadoor", sum := "f71edb3b85c354662135af36332a973e7ed2aee3f8815139e0d3a7ab2e962ec5", func := "plumbline/plumblinetop.TopParts", spec := "topParts", inPlace := ["internal/bytealg.IndexByteString", "internal/bytealg.IndexString"], named := ["unicode/utf8.first", "unicode/utf8.acceptRanges", "plumbline/sniff.marks", "plumbline/sniff.marked", "internal/bytealg.MaxLen"], apart := false, laid := [("unicode/utf8.acceptRanges", laid_unicode_utf8_acceptRanges), ("plumbline/sniff.marks", laid_plumbline_sniff_marks), ("plumbline/sniff.marked", laid_plumbline_sniff_marked), ("unicode/utf8.first", laid_unicode_utf8_first)] }
def TopPartsSaid : Prop := topPartsRow.holds Tryd.pinned (OpenSpec.ofChange topPartsSpec)

/-- ITS FALSE NEIGHBOUR: 'it returns false'. Refute it at one input. -/
def topPartsWrong : ChangeSpec := { name := "topParts", fn := fun _ => fun
  | [d1, d2, d3] => { results := [.lit (.bool false)], args := [d1, d2, d3] }
  | _ => none }
def TopPartsWrongFalsely : Prop := topPartsRow.holds Tryd.pinned (OpenSpec.ofChange topPartsWrong)

/-- 'plumblinelaw.DetectPlays': WHATEVER THE INPUT: true; the input reads as it did. -/
def detectPlaysSpec : ChangeSpec := { name := "detectPlays", fn := fun _ => fun
  | [d1, d2] => { results := [.lit (.bool true)], args := [d1, d2] }
  | _ => none }
def detectPlaysRow : OpenClaim := { program := "ytefohnbmifblkaadoor", sum := "f71edb3b85c354662135af36332a973e7ed2aee3f8815139e0d3a7ab2e962ec5", func := "plumbline/plumblinelaw.DetectPlays", spec := "detectPlays", inPlace := ["internal/bytealg.IndexByteString", "internal/bytealg.IndexString", "internal/bytealg.CountString"], unfollowed := true, recurses := true, named := ["unicode/utf8.first", "unicode/utf8.acceptRanges", "internal/bytealg.MaxLen", "plumbline/sniff.marks", "plumbline/sniff.marked"], apart := false, laid := [("unicode/utf8.acceptRanges", laid_unicode_utf8_acceptRanges), ("plumbline/sniff.marks", laid_plumbline_sniff_marks), ("plumbline/sniff.marked", laid_plumbline_sniff_marked), ("unicode/utf8.first", laid_unicode_utf8_first)] }
def DetectPlaysSaid : Prop := detectPlaysRow.holds Tryd.pinned (OpenSpec.ofChange detectPlaysSpec)

/-- ITS FALSE NEIGHBOUR: 'it returns false'. Refute it at one input. -/
def detectPlaysWrong : ChangeSpec := { name := "detectPlays", fn := fun _ => fun
  | [d1, d2] => { results := [.lit (.bool false)], args := [d1, d2] }
  | _ => none }
def DetectPlaysWrongFalsely : Prop := detectPlaysRow.holds Tryd.pinned (OpenSpec.ofChange detectPlaysWrong)

/-- 'plumblinetop.TopFinal': WHATEVER THE INPUT: true; the input reads as it did. -/
def topFinalSpec : ChangeSpec := { name := "topFinal", fn := fun _ => fun
  | [d1, d2] => { results := [.lit (.bool true)], args := [d1, d2] }
  | _ => none }
def topFinalRow : OpenClaim := { program := "ytefohnbmifblkaadoor", sum := "f71edb3b85c354662135af36332a973e7ed2aee3f8815139e0d3a7ab2e962ec5", func := "plumbline/plumblinetop.TopFinal", spec := "topFinal", inPlace := ["internal/bytealg.IndexByteString", "internal/bytealg.IndexString"], unfollowed := true, recurses := true, named := ["unicode/utf8.first", "unicode/utf8.acceptRanges", "plumbline/sniff.marks", "plumbline/sniff.marked", "internal/bytealg.MaxLen"], apart := false, laid := [("unicode/utf8.acceptRanges", laid_unicode_utf8_acceptRanges), ("plumbline/sniff.marks", laid_plumbline_sniff_marks), ("plumbline/sniff.marked", laid_plumbline_sniff_marked), ("unicode/utf8.first", laid_unicode_utf8_first)] }
def TopFinalSaid : Prop := topFinalRow.holds Tryd.pinned (OpenSpec.ofChange topFinalSpec)

/-- ITS FALSE NEIGHBOUR: 'it returns false'. Refute it at one input. -/
def topFinalWrong : ChangeSpec := { name := "topFinal", fn := fun _ => fun
  | [d1, d2] => { results := [.lit (.bool false)], args := [d1, d2] }
  | _ => none }
def TopFinalWrongFalsely : Prop := topFinalRow.holds Tryd.pinned (OpenSpec.ofChange topFinalWrong)

/-- 'plumblinelaw.DetectRuns': WHATEVER THE INPUT: true; the input reads as it did. -/
def detectRunsSpec : ChangeSpec := { name := "detectRuns", fn := fun _ => fun
  | [d1, d2] => { results := [.lit (.bool true)], args := [d1, d2] }
  | _ => none }
def detectRunsRow : OpenClaim := { program := "ytefohnbmifblkaadoor", sum := "f71edb3b85c354662135af36332a973e7ed2aee3f8815139e0d3a7ab2e962ec5", func := "plumbline/plumblinelaw.DetectRuns", spec := "detectRuns", inPlace := ["internal/bytealg.IndexByteString", "internal/bytealg.IndexString", "internal/bytealg.CountString"], unfollowed := true, recurses := true, named := ["unicode/utf8.first", "unicode/utf8.acceptRanges", "plumbline/sniff.marks", "plumbline/sniff.marked", "internal/bytealg.MaxLen"], apart := false, laid := [("unicode/utf8.acceptRanges", laid_unicode_utf8_acceptRanges), ("plumbline/sniff.marks", laid_plumbline_sniff_marks), ("plumbline/sniff.marked", laid_plumbline_sniff_marked), ("unicode/utf8.first", laid_unicode_utf8_first)] }
def DetectRunsSaid : Prop := detectRunsRow.holds Tryd.pinned (OpenSpec.ofChange detectRunsSpec)

/-- ITS FALSE NEIGHBOUR: 'it returns false'. Refute it at one input. -/
def detectRunsWrong : ChangeSpec := { name := "detectRuns", fn := fun _ => fun
  | [d1, d2] => { results := [.lit (.bool false)], args := [d1, d2] }
  | _ => none }
def DetectRunsWrongFalsely : Prop := detectRunsRow.holds Tryd.pinned (OpenSpec.ofChange detectRunsWrong)

/-- 'plumblinetop.TopSure': WHATEVER THE INPUT: true; the input reads as it did. -/
def topSureSpec : ChangeSpec := { name := "topSure", fn := fun _ => fun
  | [d1, d2, d3] => { results := [.lit (.bool true)], args := [d1, d2, d3] }
  | _ => none }
def topSureRow : OpenClaim := { program := "ytefohnbmifblkaadoor", sum := "f71edb3b85c354662135af36332a973e7ed2aee3f8815139e0d3a7ab2e962ec5", func := "plumbline/plumblinetop.TopSure", spec := "topSure", inPlace := ["internal/bytealg.IndexByteString", "internal/bytealg.IndexString"], named := ["unicode/utf8.first", "unicode/utf8.acceptRanges", "plumbline/sniff.marks", "plumbline/sniff.marked", "internal/bytealg.MaxLen"], apart := false, laid := [("unicode/utf8.acceptRanges", laid_unicode_utf8_acceptRanges), ("plumbline/sniff.marks", laid_plumbline_sniff_marks), ("plumbline/sniff.marked", laid_plumbline_sniff_marked), ("unicode/utf8.first", laid_unicode_utf8_first)] }
def TopSureSaid : Prop := topSureRow.holds Tryd.pinned (OpenSpec.ofChange topSureSpec)

/-- ITS FALSE NEIGHBOUR: 'it returns false'. Refute it at one input. -/
def topSureWrong : ChangeSpec := { name := "topSure", fn := fun _ => fun
  | [d1, d2, d3] => { results := [.lit (.bool false)], args := [d1, d2, d3] }
  | _ => none }
def TopSureWrongFalsely : Prop := topSureRow.holds Tryd.pinned (OpenSpec.ofChange topSureWrong)

/-- 'plumblinelaw.DetectJudges': WHATEVER THE INPUT: true; the input reads as it did. -/
def detectJudgesSpec : ChangeSpec := { name := "detectJudges", fn := fun _ => fun
  | [d1, d2, d3] => { results := [.lit (.bool true)], args := [d1, d2, d3] }
  | _ => none }
def detectJudgesRow : OpenClaim := { program := "ytefohnbmifblkaadoor", sum := "f71edb3b85c354662135af36332a973e7ed2aee3f8815139e0d3a7ab2e962ec5", func := "plumbline/plumblinelaw.DetectJudges", spec := "detectJudges", inPlace := ["internal/bytealg.IndexByteString", "internal/bytealg.IndexString", "internal/bytealg.CountString"], unfollowed := true, recurses := true, named := ["unicode/utf8.first", "unicode/utf8.acceptRanges", "plumbline/sniff.marks", "plumbline/sniff.marked", "internal/bytealg.MaxLen"], apart := false, laid := [("unicode/utf8.acceptRanges", laid_unicode_utf8_acceptRanges), ("plumbline/sniff.marks", laid_plumbline_sniff_marks), ("plumbline/sniff.marked", laid_plumbline_sniff_marked), ("unicode/utf8.first", laid_unicode_utf8_first)] }
def DetectJudgesSaid : Prop := detectJudgesRow.holds Tryd.pinned (OpenSpec.ofChange detectJudgesSpec)

/-- ITS FALSE NEIGHBOUR: 'it returns false'. Refute it at one input. -/
def detectJudgesWrong : ChangeSpec := { name := "detectJudges", fn := fun _ => fun
  | [d1, d2, d3] => { results := [.lit (.bool false)], args := [d1, d2, d3] }
  | _ => none }
def DetectJudgesWrongFalsely : Prop := detectJudgesRow.holds Tryd.pinned (OpenSpec.ofChange detectJudgesWrong)

/-- 'plumblinetop.TopMarks': WHATEVER THE INPUT: true; the input reads as it did. -/
def topMarksSpec : ChangeSpec := { name := "topMarks", fn := fun _ => fun
  | [d1, d2, d3] => { results := [.lit (.bool true)], args := [d1, d2, d3] }
  | _ => none }
def topMarksRow : OpenClaim := { program := "ytefohnbmifblkaadoor", sum := "f71edb3b85c354662135af36332a973e7ed2aee3f8815139e0d3a7ab2e962ec5", func := "plumbline/plumblinetop.TopMarks", spec := "topMarks", inPlace := ["internal/bytealg.IndexByteString", "internal/bytealg.IndexString"], named := ["unicode/utf8.first", "unicode/utf8.acceptRanges", "plumbline/sniff.marks", "plumbline/sniff.marked", "internal/bytealg.MaxLen"], apart := false, laid := [("unicode/utf8.acceptRanges", laid_unicode_utf8_acceptRanges), ("plumbline/sniff.marks", laid_plumbline_sniff_marks), ("plumbline/sniff.marked", laid_plumbline_sniff_marked), ("unicode/utf8.first", laid_unicode_utf8_first)] }
def TopMarksSaid : Prop := topMarksRow.holds Tryd.pinned (OpenSpec.ofChange topMarksSpec)

/-- ITS FALSE NEIGHBOUR: 'it returns false'. Refute it at one input. -/
def topMarksWrong : ChangeSpec := { name := "topMarks", fn := fun _ => fun
  | [d1, d2, d3] => { results := [.lit (.bool false)], args := [d1, d2, d3] }
  | _ => none }
def TopMarksWrongFalsely : Prop := topMarksRow.holds Tryd.pinned (OpenSpec.ofChange topMarksWrong)

/-- 'plumblinetop.TopEnded': WHATEVER THE INPUT: true; the input reads as it did. -/
def topEndedSpec : ChangeSpec := { name := "topEnded", fn := fun _ => fun
  | [d1, d2, d3] => { results := [.lit (.bool true)], args := [d1, d2, d3] }
  | _ => none }
def topEndedRow : OpenClaim := { program := "ytefohnbmifblkaadoor", sum := "f71edb3b85c354662135af36332a973e7ed2aee3f8815139e0d3a7ab2e962ec5", func := "plumbline/plumblinetop.TopEnded", spec := "topEnded", inPlace := ["internal/bytealg.IndexByteString", "internal/bytealg.IndexString"], unfollowed := true, recurses := true, named := ["unicode/utf8.first", "unicode/utf8.acceptRanges", "plumbline/sniff.marks", "plumbline/sniff.marked", "internal/bytealg.MaxLen"], apart := false, laid := [("unicode/utf8.acceptRanges", laid_unicode_utf8_acceptRanges), ("plumbline/sniff.marks", laid_plumbline_sniff_marks), ("plumbline/sniff.marked", laid_plumbline_sniff_marked), ("unicode/utf8.first", laid_unicode_utf8_first)] }
def TopEndedSaid : Prop := topEndedRow.holds Tryd.pinned (OpenSpec.ofChange topEndedSpec)

/-- ITS FALSE NEIGHBOUR: 'it returns false'. Refute it at one input. -/
def topEndedWrong : ChangeSpec := { name := "topEnded", fn := fun _ => fun
  | [d1, d2, d3] => { results := [.lit (.bool false)], args := [d1, d2, d3] }
  | _ => none }
def TopEndedWrongFalsely : Prop := topEndedRow.holds Tryd.pinned (OpenSpec.ofChange topEndedWrong)

/- THE SECOND FORM. 'bulk': how many values and letters a reading holds, each counted each time it is reached (what is shared counts as often as it is met; a slice's spare places count too). A statement '..UptoSaid' is the law's where the arguments, and the package variables that the reading takes, are together of bulk at most 1048576: NARROWER than '..Said'. Prove '..Said' where nothing that the law and all that it calls make is longer than what came in: it says more and counts as full. Else prove '..UptoSaid'. A law counts once. -/
mutual
def uptoBulk {H : Type} : DataW H → Nat
  | .lit (.string bytes) => bytes.length + 1
  | .lit _ => 1
  | .nil => 1
  | .ptr d => uptoBulk d + 1
  | .slice elems spare => uptoBulkAll elems + uptoBulkAll spare + 1
  | .agg parts => uptoBulkAll parts + 1
  | .iface _ d => uptoBulk d + 1
  | .map entries => uptoBulkEntries entries + 1
  | .held _ => 1
def uptoBulkAll {H : Type} : List (DataW H) → Nat
  | [] => 0
  | d :: r => uptoBulk d + uptoBulkAll r
def uptoBulkEntries {H : Type} : List (Lit × DataW H) → Nat
  | [] => 0
  | x :: r => uptoBulkEntry x + uptoBulkEntries r
def uptoBulkEntry {H : Type} : Lit × DataW H → Nat
  | (.string bytes, d) => bytes.length + uptoBulk d + 1
  | (_, d) => uptoBulk d + 1
 end
def uptoSmall : (H : Type) → List (DataW H) → Bool := fun _ ds => decide (uptoBulkAll ds ≤ 1048576)
def OpenSpec.upto (s : _root_.Go.ChangeSpec) : _root_.Go.OpenSpec := { _root_.Go.OpenSpec.ofChange s with cond := some uptoSmall }

/-- 'plumblinekeep.SniffWindow', WHERE WHAT IT READS IS OF BULK AT MOST 1048576: true; the input reads as it did. -/
def sniffWindowUptoRow : OpenClaim := { program := "ytefohnbmifblkaadoor", sum := "f71edb3b85c354662135af36332a973e7ed2aee3f8815139e0d3a7ab2e962ec5", func := "plumbline/plumblinekeep.SniffWindow", spec := "sniffWindow", inPlace := ["internal/bytealg.IndexByteString", "internal/bytealg.IndexString"], named := ["plumbline/sniff.marks", "plumbline/sniff.marked", "unicode/utf8.first", "unicode/utf8.acceptRanges", "internal/bytealg.MaxLen"], apart := false, laid := [("unicode/utf8.acceptRanges", laid_unicode_utf8_acceptRanges), ("plumbline/sniff.marks", laid_plumbline_sniff_marks), ("plumbline/sniff.marked", laid_plumbline_sniff_marked), ("unicode/utf8.first", laid_unicode_utf8_first)], narrowed := true }
def SniffWindowUptoSaid : Prop := sniffWindowUptoRow.holds Tryd.pinned (OpenSpec.upto sniffWindowSpec)

/-- 'plumblinekeep.SniffStays', WHERE WHAT IT READS IS OF BULK AT MOST 1048576: true; the input reads as it did. -/
def sniffStaysUptoRow : OpenClaim := { program := "ytefohnbmifblkaadoor", sum := "f71edb3b85c354662135af36332a973e7ed2aee3f8815139e0d3a7ab2e962ec5", func := "plumbline/plumblinekeep.SniffStays", spec := "sniffStays", inPlace := ["internal/bytealg.IndexByteString", "internal/bytealg.IndexString"], named := ["plumbline/sniff.marks", "plumbline/sniff.marked", "unicode/utf8.first", "unicode/utf8.acceptRanges", "internal/bytealg.MaxLen"], apart := false, laid := [("unicode/utf8.acceptRanges", laid_unicode_utf8_acceptRanges), ("plumbline/sniff.marks", laid_plumbline_sniff_marks), ("plumbline/sniff.marked", laid_plumbline_sniff_marked), ("unicode/utf8.first", laid_unicode_utf8_first)], narrowed := true }
def SniffStaysUptoSaid : Prop := sniffStaysUptoRow.holds Tryd.pinned (OpenSpec.upto sniffStaysSpec)

/-- 'plumblinelaw.SniffTells', WHERE WHAT IT READS IS OF BULK AT MOST 1048576: true; the input reads as it did. -/
def sniffTellsUptoRow : OpenClaim := { program := "ytefohnbmifblkaadoor", sum := "f71edb3b85c354662135af36332a973e7ed2aee3f8815139e0d3a7ab2e962ec5", func := "plumbline/plumblinelaw.SniffTells", spec := "sniffTells", inPlace := ["internal/bytealg.IndexByteString", "internal/bytealg.IndexString", "internal/bytealg.CountString"], unfollowed := true, recurses := true, named := ["plumbline/sniff.marks", "plumbline/sniff.marked", "unicode/utf8.first", "unicode/utf8.acceptRanges", "internal/bytealg.MaxLen"], apart := false, laid := [("unicode/utf8.acceptRanges", laid_unicode_utf8_acceptRanges), ("plumbline/sniff.marks", laid_plumbline_sniff_marks), ("plumbline/sniff.marked", laid_plumbline_sniff_marked), ("unicode/utf8.first", laid_unicode_utf8_first)], narrowed := true }
def SniffTellsUptoSaid : Prop := sniffTellsUptoRow.holds Tryd.pinned (OpenSpec.upto sniffTellsSpec)

/-- 'plumblinelaw.DetectNil', WHERE WHAT IT READS IS OF BULK AT MOST 1048576: true; the input reads as it did. -/
def detectNilUptoRow : OpenClaim := { program := "ytefohnbmifblkaadoor", sum := "f71edb3b85c354662135af36332a973e7ed2aee3f8815139e0d3a7ab2e962ec5", func := "plumbline/plumblinelaw.DetectNil", spec := "detectNil", inPlace := ["internal/bytealg.IndexByteString", "internal/bytealg.IndexString"], named := ["plumbline/sniff.marks", "plumbline/sniff.marked", "unicode/utf8.first", "unicode/utf8.acceptRanges", "internal/bytealg.MaxLen"], apart := false, laid := [("unicode/utf8.acceptRanges", laid_unicode_utf8_acceptRanges), ("plumbline/sniff.marks", laid_plumbline_sniff_marks), ("plumbline/sniff.marked", laid_plumbline_sniff_marked), ("unicode/utf8.first", laid_unicode_utf8_first)], narrowed := true }
def DetectNilUptoSaid : Prop := detectNilUptoRow.holds Tryd.pinned (OpenSpec.upto detectNilSpec)

/-- 'plumblinetop.TopParts', WHERE WHAT IT READS IS OF BULK AT MOST 1048576: true; the input reads as it did. -/
def topPartsUptoRow : OpenClaim := { program := "ytefohnbmifblkaadoor", sum := "f71edb3b85c354662135af36332a973e7ed2aee3f8815139e0d3a7ab2e962ec5", func := "plumbline/plumblinetop.TopParts", spec := "topParts", inPlace := ["internal/bytealg.IndexByteString", "internal/bytealg.IndexString"], named := ["unicode/utf8.first", "unicode/utf8.acceptRanges", "plumbline/sniff.marks", "plumbline/sniff.marked", "internal/bytealg.MaxLen"], apart := false, laid := [("unicode/utf8.acceptRanges", laid_unicode_utf8_acceptRanges), ("plumbline/sniff.marks", laid_plumbline_sniff_marks), ("plumbline/sniff.marked", laid_plumbline_sniff_marked), ("unicode/utf8.first", laid_unicode_utf8_first)], narrowed := true }
def TopPartsUptoSaid : Prop := topPartsUptoRow.holds Tryd.pinned (OpenSpec.upto topPartsSpec)

/-- 'plumblinelaw.DetectPlays', WHERE WHAT IT READS IS OF BULK AT MOST 1048576: true; the input reads as it did. -/
def detectPlaysUptoRow : OpenClaim := { program := "ytefohnbmifblkaadoor", sum := "f71edb3b85c354662135af36332a973e7ed2aee3f8815139e0d3a7ab2e962ec5", func := "plumbline/plumblinelaw.DetectPlays", spec := "detectPlays", inPlace := ["internal/bytealg.IndexByteString", "internal/bytealg.IndexString", "internal/bytealg.CountString"], unfollowed := true, recurses := true, named := ["unicode/utf8.first", "unicode/utf8.acceptRanges", "internal/bytealg.MaxLen", "plumbline/sniff.marks", "plumbline/sniff.marked"], apart := false, laid := [("unicode/utf8.acceptRanges", laid_unicode_utf8_acceptRanges), ("plumbline/sniff.marks", laid_plumbline_sniff_marks), ("plumbline/sniff.marked", laid_plumbline_sniff_marked), ("unicode/utf8.first", laid_unicode_utf8_first)], narrowed := true }
def DetectPlaysUptoSaid : Prop := detectPlaysUptoRow.holds Tryd.pinned (OpenSpec.upto detectPlaysSpec)

/-- 'plumblinetop.TopFinal', WHERE WHAT IT READS IS OF BULK AT MOST 1048576: true; the input reads as it did. -/
def topFinalUptoRow : OpenClaim := { program := "ytefohnbmifblkaadoor", sum := "f71edb3b85c354662135af36332a973e7ed2aee3f8815139e0d3a7ab2e962ec5", func := "plumbline/plumblinetop.TopFinal", spec := "topFinal", inPlace := ["internal/bytealg.IndexByteString", "internal/bytealg.IndexString"], unfollowed := true, recurses := true, named := ["unicode/utf8.first", "unicode/utf8.acceptRanges", "plumbline/sniff.marks", "plumbline/sniff.marked", "internal/bytealg.MaxLen"], apart := false, laid := [("unicode/utf8.acceptRanges", laid_unicode_utf8_acceptRanges), ("plumbline/sniff.marks", laid_plumbline_sniff_marks), ("plumbline/sniff.marked", laid_plumbline_sniff_marked), ("unicode/utf8.first", laid_unicode_utf8_first)], narrowed := true }
def TopFinalUptoSaid : Prop := topFinalUptoRow.holds Tryd.pinned (OpenSpec.upto topFinalSpec)

/-- 'plumblinelaw.DetectRuns', WHERE WHAT IT READS IS OF BULK AT MOST 1048576: true; the input reads as it did. -/
def detectRunsUptoRow : OpenClaim := { program := "ytefohnbmifblkaadoor", sum := "f71edb3b85c354662135af36332a973e7ed2aee3f8815139e0d3a7ab2e962ec5", func := "plumbline/plumblinelaw.DetectRuns", spec := "detectRuns", inPlace := ["internal/bytealg.IndexByteString", "internal/bytealg.IndexString", "internal/bytealg.CountString"], unfollowed := true, recurses := true, named := ["unicode/utf8.first", "unicode/utf8.acceptRanges", "plumbline/sniff.marks", "plumbline/sniff.marked", "internal/bytealg.MaxLen"], apart := false, laid := [("unicode/utf8.acceptRanges", laid_unicode_utf8_acceptRanges), ("plumbline/sniff.marks", laid_plumbline_sniff_marks), ("plumbline/sniff.marked", laid_plumbline_sniff_marked), ("unicode/utf8.first", laid_unicode_utf8_first)], narrowed := true }
def DetectRunsUptoSaid : Prop := detectRunsUptoRow.holds Tryd.pinned (OpenSpec.upto detectRunsSpec)

/-- 'plumblinetop.TopSure', WHERE WHAT IT READS IS OF BULK AT MOST 1048576: true; the input reads as it did. -/
def topSureUptoRow : OpenClaim := { program := "ytefohnbmifblkaadoor", sum := "f71edb3b85c354662135af36332a973e7ed2aee3f8815139e0d3a7ab2e962ec5", func := "plumbline/plumblinetop.TopSure", spec := "topSure", inPlace := ["internal/bytealg.IndexByteString", "internal/bytealg.IndexString"], named := ["unicode/utf8.first", "unicode/utf8.acceptRanges", "plumbline/sniff.marks", "plumbline/sniff.marked", "internal/bytealg.MaxLen"], apart := false, laid := [("unicode/utf8.acceptRanges", laid_unicode_utf8_acceptRanges), ("plumbline/sniff.marks", laid_plumbline_sniff_marks), ("plumbline/sniff.marked", laid_plumbline_sniff_marked), ("unicode/utf8.first", laid_unicode_utf8_first)], narrowed := true }
def TopSureUptoSaid : Prop := topSureUptoRow.holds Tryd.pinned (OpenSpec.upto topSureSpec)

/-- 'plumblinelaw.DetectJudges', WHERE WHAT IT READS IS OF BULK AT MOST 1048576: true; the input reads as it did. -/
def detectJudgesUptoRow : OpenClaim := { program := "ytefohnbmifblkaadoor", sum := "f71edb3b85c354662135af36332a973e7ed2aee3f8815139e0d3a7ab2e962ec5", func := "plumbline/plumblinelaw.DetectJudges", spec := "detectJudges", inPlace := ["internal/bytealg.IndexByteString", "internal/bytealg.IndexString", "internal/bytealg.CountString"], unfollowed := true, recurses := true, named := ["unicode/utf8.first", "unicode/utf8.acceptRanges", "plumbline/sniff.marks", "plumbline/sniff.marked", "internal/bytealg.MaxLen"], apart := false, laid := [("unicode/utf8.acceptRanges", laid_unicode_utf8_acceptRanges), ("plumbline/sniff.marks", laid_plumbline_sniff_marks), ("plumbline/sniff.marked", laid_plumbline_sniff_marked), ("unicode/utf8.first", laid_unicode_utf8_first)], narrowed := true }
def DetectJudgesUptoSaid : Prop := detectJudgesUptoRow.holds Tryd.pinned (OpenSpec.upto detectJudgesSpec)

/-- 'plumblinetop.TopMarks', WHERE WHAT IT READS IS OF BULK AT MOST 1048576: true; the input reads as it did. -/
def topMarksUptoRow : OpenClaim := { program := "ytefohnbmifblkaadoor", sum := "f71edb3b85c354662135af36332a973e7ed2aee3f8815139e0d3a7ab2e962ec5", func := "plumbline/plumblinetop.TopMarks", spec := "topMarks", inPlace := ["internal/bytealg.IndexByteString", "internal/bytealg.IndexString"], named := ["unicode/utf8.first", "unicode/utf8.acceptRanges", "plumbline/sniff.marks", "plumbline/sniff.marked", "internal/bytealg.MaxLen"], apart := false, laid := [("unicode/utf8.acceptRanges", laid_unicode_utf8_acceptRanges), ("plumbline/sniff.marks", laid_plumbline_sniff_marks), ("plumbline/sniff.marked", laid_plumbline_sniff_marked), ("unicode/utf8.first", laid_unicode_utf8_first)], narrowed := true }
def TopMarksUptoSaid : Prop := topMarksUptoRow.holds Tryd.pinned (OpenSpec.upto topMarksSpec)

/-- 'plumblinetop.TopEnded', WHERE WHAT IT READS IS OF BULK AT MOST 1048576: true; the input reads as it did. -/
def topEndedUptoRow : OpenClaim := { program := "ytefohnbmifblkaadoor", sum := "f71edb3b85c354662135af36332a973e7ed2aee3f8815139e0d3a7ab2e962ec5", func := "plumbline/plumblinetop.TopEnded", spec := "topEnded", inPlace := ["internal/bytealg.IndexByteString", "internal/bytealg.IndexString"], unfollowed := true, recurses := true, named := ["unicode/utf8.first", "unicode/utf8.acceptRanges", "plumbline/sniff.marks", "plumbline/sniff.marked", "internal/bytealg.MaxLen"], apart := false, laid := [("unicode/utf8.acceptRanges", laid_unicode_utf8_acceptRanges), ("plumbline/sniff.marks", laid_plumbline_sniff_marks), ("plumbline/sniff.marked", laid_plumbline_sniff_marked), ("unicode/utf8.first", laid_unicode_utf8_first)], narrowed := true }
def TopEndedUptoSaid : Prop := topEndedUptoRow.holds Tryd.pinned (OpenSpec.upto topEndedSpec)

end Rows
end Go.Proofs.YtefohnbmifblkaaDoor
