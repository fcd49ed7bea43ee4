/-
  DERIVED. GIVEN WITH THE SEED: THE CARDS: each row of YtefohnbmifblkaaDoorRows.lean that lists a variable, with what it lists TIED to the program's text (the seventh form; the later family's looks); each row that meets fmt, with fmt's text TOLD by the authors' own Lean function (tested against real Go, not proved from fmt's source: count such statements apart). THE CARD IS WHAT COUNTS. Prove the row's statement (the work); the ties are given (YtefohnbmifblkaaDoorTie.lean); close each card by the builder's one call (the guide's Derived/Test/ToyasCard.lean, 'card_holds'). Laid BY PROGRAM, IN A SANDBOX (cutbox-door.mjs). By AI agents, Wed Nov 11 2026. No macro, syntax, notation, axiom, sorry.
-/
import Derived.Test.YtefohnbmifblkaaDoorRows
import GoSem.ClaimSeven
namespace Go.Proofs.YtefohnbmifblkaaDoor
namespace Rows

/-- THE TIED CARD OF 'plumblinekeep.SniffWindow'. -/
def sniffWindowCard : Claim7 := { stood := { row := sniffWindowRow, standIns := [], harness := (true, "aeaf7cb62531a5b96daf463762f1dfd597efbd7baa2ffb3517550100aee6626b"), looks := false }, kinds := [], alts := [], laidByText := true, laidKinds := [.data, .widerDeep, .data, .pinned], laidTests := true, laidLooks := .later }
def SniffWindowCardSaid : Prop := Claim7.holds Tryd.pinned (.plain (OpenSpec.ofChange sniffWindowSpec)) sniffWindowCard

/-- THE TIED CARD OF 'plumblinekeep.SniffStays'. -/
def sniffStaysCard : Claim7 := { stood := { row := sniffStaysRow, standIns := [], harness := (true, "aeaf7cb62531a5b96daf463762f1dfd597efbd7baa2ffb3517550100aee6626b"), looks := false }, kinds := [], alts := [], laidByText := true, laidKinds := [.data, .widerDeep, .data, .pinned], laidTests := true, laidLooks := .later }
def SniffStaysCardSaid : Prop := Claim7.holds Tryd.pinned (.plain (OpenSpec.ofChange sniffStaysSpec)) sniffStaysCard

/-- THE TIED CARD OF 'plumblinelaw.SniffTells'. -/
def sniffTellsCard : Claim7 := { stood := { row := sniffTellsRow, standIns := [], harness := (true, "aeaf7cb62531a5b96daf463762f1dfd597efbd7baa2ffb3517550100aee6626b"), looks := false }, kinds := [], alts := [], laidByText := true, laidKinds := [.data, .widerDeep, .data, .pinned], laidTests := true, laidLooks := .later }
def SniffTellsCardSaid : Prop := Claim7.holds Tryd.pinned (.plain (OpenSpec.ofChange sniffTellsSpec)) sniffTellsCard

/-- THE TIED CARD OF 'plumblinelaw.DetectNil'. -/
def detectNilCard : Claim7 := { stood := { row := detectNilRow, standIns := [], harness := (true, "aeaf7cb62531a5b96daf463762f1dfd597efbd7baa2ffb3517550100aee6626b"), looks := false }, kinds := [], alts := [], laidByText := true, laidKinds := [.data, .widerDeep, .data, .pinned], laidTests := true, laidLooks := .later }
def DetectNilCardSaid : Prop := Claim7.holds Tryd.pinned (.plain (OpenSpec.ofChange detectNilSpec)) detectNilCard

/-- THE TIED CARD OF 'plumblinetop.TopParts'. -/
def topPartsCard : Claim7 := { stood := { row := topPartsRow, standIns := [], harness := (true, "aeaf7cb62531a5b96daf463762f1dfd597efbd7baa2ffb3517550100aee6626b"), looks := false }, kinds := [], alts := [], laidByText := true, laidKinds := [.data, .widerDeep, .data, .pinned], laidTests := true, laidLooks := .later }
def TopPartsCardSaid : Prop := Claim7.holds Tryd.pinned (.plain (OpenSpec.ofChange topPartsSpec)) topPartsCard

/-- THE TIED CARD OF 'plumblinelaw.DetectPlays'. -/
def detectPlaysCard : Claim7 := { stood := { row := detectPlaysRow, standIns := [], harness := (true, "aeaf7cb62531a5b96daf463762f1dfd597efbd7baa2ffb3517550100aee6626b"), looks := false }, kinds := [], alts := [], laidByText := true, laidKinds := [.data, .widerDeep, .data, .pinned], laidTests := true, laidLooks := .later }
def DetectPlaysCardSaid : Prop := Claim7.holds Tryd.pinned (.plain (OpenSpec.ofChange detectPlaysSpec)) detectPlaysCard

/-- THE TIED CARD OF 'plumblinetop.TopFinal'. -/
def topFinalCard : Claim7 := { stood := { row := topFinalRow, standIns := [], harness := (true, "aeaf7cb62531a5b96daf463762f1dfd597efbd7baa2ffb3517550100aee6626b"), looks := false }, kinds := [], alts := [], laidByText := true, laidKinds := [.data, .widerDeep, .data, .pinned], laidTests := true, laidLooks := .later }
def TopFinalCardSaid : Prop := Claim7.holds Tryd.pinned (.plain (OpenSpec.ofChange topFinalSpec)) topFinalCard

/-- THE TIED CARD OF 'plumblinelaw.DetectRuns'. -/
def detectRunsCard : Claim7 := { stood := { row := detectRunsRow, standIns := [], harness := (true, "aeaf7cb62531a5b96daf463762f1dfd597efbd7baa2ffb3517550100aee6626b"), looks := false }, kinds := [], alts := [], laidByText := true, laidKinds := [.data, .widerDeep, .data, .pinned], laidTests := true, laidLooks := .later }
def DetectRunsCardSaid : Prop := Claim7.holds Tryd.pinned (.plain (OpenSpec.ofChange detectRunsSpec)) detectRunsCard

/-- THE TIED CARD OF 'plumblinetop.TopSure'. -/
def topSureCard : Claim7 := { stood := { row := topSureRow, standIns := [], harness := (true, "aeaf7cb62531a5b96daf463762f1dfd597efbd7baa2ffb3517550100aee6626b"), looks := false }, kinds := [], alts := [], laidByText := true, laidKinds := [.data, .widerDeep, .data, .pinned], laidTests := true, laidLooks := .later }
def TopSureCardSaid : Prop := Claim7.holds Tryd.pinned (.plain (OpenSpec.ofChange topSureSpec)) topSureCard

/-- THE TIED CARD OF 'plumblinelaw.DetectJudges'. -/
def detectJudgesCard : Claim7 := { stood := { row := detectJudgesRow, standIns := [], harness := (true, "aeaf7cb62531a5b96daf463762f1dfd597efbd7baa2ffb3517550100aee6626b"), looks := false }, kinds := [], alts := [], laidByText := true, laidKinds := [.data, .widerDeep, .data, .pinned], laidTests := true, laidLooks := .later }
def DetectJudgesCardSaid : Prop := Claim7.holds Tryd.pinned (.plain (OpenSpec.ofChange detectJudgesSpec)) detectJudgesCard

/-- THE TIED CARD OF 'plumblinetop.TopMarks'. -/
def topMarksCard : Claim7 := { stood := { row := topMarksRow, standIns := [], harness := (true, "aeaf7cb62531a5b96daf463762f1dfd597efbd7baa2ffb3517550100aee6626b"), looks := false }, kinds := [], alts := [], laidByText := true, laidKinds := [.data, .widerDeep, .data, .pinned], laidTests := true, laidLooks := .later }
def TopMarksCardSaid : Prop := Claim7.holds Tryd.pinned (.plain (OpenSpec.ofChange topMarksSpec)) topMarksCard

/-- THE TIED CARD OF 'plumblinetop.TopEnded'. -/
def topEndedCard : Claim7 := { stood := { row := topEndedRow, standIns := [], harness := (true, "aeaf7cb62531a5b96daf463762f1dfd597efbd7baa2ffb3517550100aee6626b"), looks := false }, kinds := [], alts := [], laidByText := true, laidKinds := [.data, .widerDeep, .data, .pinned], laidTests := true, laidLooks := .later }
def TopEndedCardSaid : Prop := Claim7.holds Tryd.pinned (.plain (OpenSpec.ofChange topEndedSpec)) topEndedCard

/-- THE SECOND FORM's CARD OF 'plumblinekeep.SniffWindow'. -/
def sniffWindowUptoCard : Claim7 := { stood := { row := sniffWindowUptoRow, standIns := [], harness := (true, "aeaf7cb62531a5b96daf463762f1dfd597efbd7baa2ffb3517550100aee6626b"), looks := false }, kinds := [], alts := [], laidByText := true, laidKinds := [.data, .widerDeep, .data, .pinned], laidTests := true, laidLooks := .later }
def SniffWindowUptoCardSaid : Prop := Claim7.holds Tryd.pinned (.plain (OpenSpec.upto sniffWindowSpec)) sniffWindowUptoCard

/-- THE SECOND FORM's CARD OF 'plumblinekeep.SniffStays'. -/
def sniffStaysUptoCard : Claim7 := { stood := { row := sniffStaysUptoRow, standIns := [], harness := (true, "aeaf7cb62531a5b96daf463762f1dfd597efbd7baa2ffb3517550100aee6626b"), looks := false }, kinds := [], alts := [], laidByText := true, laidKinds := [.data, .widerDeep, .data, .pinned], laidTests := true, laidLooks := .later }
def SniffStaysUptoCardSaid : Prop := Claim7.holds Tryd.pinned (.plain (OpenSpec.upto sniffStaysSpec)) sniffStaysUptoCard

/-- THE SECOND FORM's CARD OF 'plumblinelaw.SniffTells'. -/
def sniffTellsUptoCard : Claim7 := { stood := { row := sniffTellsUptoRow, standIns := [], harness := (true, "aeaf7cb62531a5b96daf463762f1dfd597efbd7baa2ffb3517550100aee6626b"), looks := false }, kinds := [], alts := [], laidByText := true, laidKinds := [.data, .widerDeep, .data, .pinned], laidTests := true, laidLooks := .later }
def SniffTellsUptoCardSaid : Prop := Claim7.holds Tryd.pinned (.plain (OpenSpec.upto sniffTellsSpec)) sniffTellsUptoCard

/-- THE SECOND FORM's CARD OF 'plumblinelaw.DetectNil'. -/
def detectNilUptoCard : Claim7 := { stood := { row := detectNilUptoRow, standIns := [], harness := (true, "aeaf7cb62531a5b96daf463762f1dfd597efbd7baa2ffb3517550100aee6626b"), looks := false }, kinds := [], alts := [], laidByText := true, laidKinds := [.data, .widerDeep, .data, .pinned], laidTests := true, laidLooks := .later }
def DetectNilUptoCardSaid : Prop := Claim7.holds Tryd.pinned (.plain (OpenSpec.upto detectNilSpec)) detectNilUptoCard

/-- THE SECOND FORM's CARD OF 'plumblinetop.TopParts'. -/
def topPartsUptoCard : Claim7 := { stood := { row := topPartsUptoRow, standIns := [], harness := (true, "aeaf7cb62531a5b96daf463762f1dfd597efbd7baa2ffb3517550100aee6626b"), looks := false }, kinds := [], alts := [], laidByText := true, laidKinds := [.data, .widerDeep, .data, .pinned], laidTests := true, laidLooks := .later }
def TopPartsUptoCardSaid : Prop := Claim7.holds Tryd.pinned (.plain (OpenSpec.upto topPartsSpec)) topPartsUptoCard

/-- THE SECOND FORM's CARD OF 'plumblinelaw.DetectPlays'. -/
def detectPlaysUptoCard : Claim7 := { stood := { row := detectPlaysUptoRow, standIns := [], harness := (true, "aeaf7cb62531a5b96daf463762f1dfd597efbd7baa2ffb3517550100aee6626b"), looks := false }, kinds := [], alts := [], laidByText := true, laidKinds := [.data, .widerDeep, .data, .pinned], laidTests := true, laidLooks := .later }
def DetectPlaysUptoCardSaid : Prop := Claim7.holds Tryd.pinned (.plain (OpenSpec.upto detectPlaysSpec)) detectPlaysUptoCard

/-- THE SECOND FORM's CARD OF 'plumblinetop.TopFinal'. -/
def topFinalUptoCard : Claim7 := { stood := { row := topFinalUptoRow, standIns := [], harness := (true, "aeaf7cb62531a5b96daf463762f1dfd597efbd7baa2ffb3517550100aee6626b"), looks := false }, kinds := [], alts := [], laidByText := true, laidKinds := [.data, .widerDeep, .data, .pinned], laidTests := true, laidLooks := .later }
def TopFinalUptoCardSaid : Prop := Claim7.holds Tryd.pinned (.plain (OpenSpec.upto topFinalSpec)) topFinalUptoCard

/-- THE SECOND FORM's CARD OF 'plumblinelaw.DetectRuns'. -/
def detectRunsUptoCard : Claim7 := { stood := { row := detectRunsUptoRow, standIns := [], harness := (true, "aeaf7cb62531a5b96daf463762f1dfd597efbd7baa2ffb3517550100aee6626b"), looks := false }, kinds := [], alts := [], laidByText := true, laidKinds := [.data, .widerDeep, .data, .pinned], laidTests := true, laidLooks := .later }
def DetectRunsUptoCardSaid : Prop := Claim7.holds Tryd.pinned (.plain (OpenSpec.upto detectRunsSpec)) detectRunsUptoCard

/-- THE SECOND FORM's CARD OF 'plumblinetop.TopSure'. -/
def topSureUptoCard : Claim7 := { stood := { row := topSureUptoRow, standIns := [], harness := (true, "aeaf7cb62531a5b96daf463762f1dfd597efbd7baa2ffb3517550100aee6626b"), looks := false }, kinds := [], alts := [], laidByText := true, laidKinds := [.data, .widerDeep, .data, .pinned], laidTests := true, laidLooks := .later }
def TopSureUptoCardSaid : Prop := Claim7.holds Tryd.pinned (.plain (OpenSpec.upto topSureSpec)) topSureUptoCard

/-- THE SECOND FORM's CARD OF 'plumblinelaw.DetectJudges'. -/
def detectJudgesUptoCard : Claim7 := { stood := { row := detectJudgesUptoRow, standIns := [], harness := (true, "aeaf7cb62531a5b96daf463762f1dfd597efbd7baa2ffb3517550100aee6626b"), looks := false }, kinds := [], alts := [], laidByText := true, laidKinds := [.data, .widerDeep, .data, .pinned], laidTests := true, laidLooks := .later }
def DetectJudgesUptoCardSaid : Prop := Claim7.holds Tryd.pinned (.plain (OpenSpec.upto detectJudgesSpec)) detectJudgesUptoCard

/-- THE SECOND FORM's CARD OF 'plumblinetop.TopMarks'. -/
def topMarksUptoCard : Claim7 := { stood := { row := topMarksUptoRow, standIns := [], harness := (true, "aeaf7cb62531a5b96daf463762f1dfd597efbd7baa2ffb3517550100aee6626b"), looks := false }, kinds := [], alts := [], laidByText := true, laidKinds := [.data, .widerDeep, .data, .pinned], laidTests := true, laidLooks := .later }
def TopMarksUptoCardSaid : Prop := Claim7.holds Tryd.pinned (.plain (OpenSpec.upto topMarksSpec)) topMarksUptoCard

/-- THE SECOND FORM's CARD OF 'plumblinetop.TopEnded'. -/
def topEndedUptoCard : Claim7 := { stood := { row := topEndedUptoRow, standIns := [], harness := (true, "aeaf7cb62531a5b96daf463762f1dfd597efbd7baa2ffb3517550100aee6626b"), looks := false }, kinds := [], alts := [], laidByText := true, laidKinds := [.data, .widerDeep, .data, .pinned], laidTests := true, laidLooks := .later }
def TopEndedUptoCardSaid : Prop := Claim7.holds Tryd.pinned (.plain (OpenSpec.upto topEndedSpec)) topEndedUptoCard
end Rows
end Go.Proofs.YtefohnbmifblkaaDoor
