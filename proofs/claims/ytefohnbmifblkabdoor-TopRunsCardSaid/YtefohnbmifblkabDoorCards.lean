/-
  DERIVED. GIVEN WITH THE SEED: THE CARDS: each row of YtefohnbmifblkabDoorRows.lean that lists a variable, with what it lists TIED to the program's text (the seventh form; the later family's looks); each row that meets fmt, with fmt's text TOLD by the authors' own Lean function (tested against real Go, not proved from fmt's source: count such statements apart). THE CARD IS WHAT COUNTS. Prove the row's statement (the work); the ties are given (YtefohnbmifblkabDoorTie.lean); close each card by the builder's one call (the guide's Derived/Test/ToyasCard.lean, 'card_holds'). Laid BY PROGRAM, IN A SANDBOX (cutbox-door.mjs). By AI agents, Wed Nov 11 2026. No macro, syntax, notation, axiom, sorry.
-/
import Derived.Test.YtefohnbmifblkabDoorRows
import GoSem.ClaimSeven
namespace Go.Proofs.YtefohnbmifblkabDoor
namespace Rows

/-- THE TIED CARD OF 'plumblinetop.TopRefused'. -/
def topRefusedCard : Claim7 := { stood := { row := topRefusedRow, standIns := [], harness := (true, "dfb1f2462c74867c87c9cbdb76783440988645cdb00d97c19249528450f76ff1"), looks := false }, kinds := [], alts := [], laidByText := true, laidKinds := [.data, .widerDeep, .data, .pinned], laidTests := true, laidLooks := .later }
def TopRefusedCardSaid : Prop := Claim7.holds Tryd.pinned (.plain (OpenSpec.ofChange topRefusedSpec)) topRefusedCard

/-- THE TIED CARD OF 'plumblinetop.TopEnds'. -/
def topEndsCard : Claim7 := { stood := { row := topEndsRow, standIns := [], harness := (true, "dfb1f2462c74867c87c9cbdb76783440988645cdb00d97c19249528450f76ff1"), looks := false }, kinds := [], alts := [], laidByText := true, laidKinds := [.data, .widerDeep, .data, .pinned], laidTests := true, laidLooks := .later }
def TopEndsCardSaid : Prop := Claim7.holds Tryd.pinned (.plain (OpenSpec.ofChange topEndsSpec)) topEndsCard

/-- THE TIED CARD OF 'plumblinetop.TopRuns'. -/
def topRunsCard : Claim7 := { stood := { row := topRunsRow, standIns := [], harness := (true, "dfb1f2462c74867c87c9cbdb76783440988645cdb00d97c19249528450f76ff1"), looks := false }, kinds := [], alts := [], laidByText := true, laidKinds := [.data, .widerDeep, .data, .pinned], laidTests := true, laidLooks := .later }
def TopRunsCardSaid : Prop := Claim7.holds Tryd.pinned (.plain (OpenSpec.ofChange topRunsSpec)) topRunsCard

/-- THE TIED CARD OF 'plumblinetop.TopScored'. -/
def topScoredCard : Claim7 := { stood := { row := topScoredRow, standIns := [], harness := (true, "dfb1f2462c74867c87c9cbdb76783440988645cdb00d97c19249528450f76ff1"), looks := false }, kinds := [], alts := [], laidByText := true, laidKinds := [.data, .widerDeep, .data, .pinned], laidTests := true, laidLooks := .later }
def TopScoredCardSaid : Prop := Claim7.holds Tryd.pinned (.plain (OpenSpec.ofChange topScoredSpec)) topScoredCard

/-- THE TIED CARD OF 'plumblinetop.TopWhole'. -/
def topWholeCard : Claim7 := { stood := { row := topWholeRow, standIns := [], harness := (true, "dfb1f2462c74867c87c9cbdb76783440988645cdb00d97c19249528450f76ff1"), looks := false }, kinds := [], alts := [], laidByText := true, laidKinds := [.data, .widerDeep, .data, .pinned], laidTests := true, laidLooks := .later }
def TopWholeCardSaid : Prop := Claim7.holds Tryd.pinned (.plain (OpenSpec.ofChange topWholeSpec)) topWholeCard

/-- THE SECOND FORM's CARD OF 'plumblinetop.TopRefused'. -/
def topRefusedUptoCard : Claim7 := { stood := { row := topRefusedUptoRow, standIns := [], harness := (true, "dfb1f2462c74867c87c9cbdb76783440988645cdb00d97c19249528450f76ff1"), looks := false }, kinds := [], alts := [], laidByText := true, laidKinds := [.data, .widerDeep, .data, .pinned], laidTests := true, laidLooks := .later }
def TopRefusedUptoCardSaid : Prop := Claim7.holds Tryd.pinned (.plain (OpenSpec.upto topRefusedSpec)) topRefusedUptoCard

/-- THE SECOND FORM's CARD OF 'plumblinetop.TopEnds'. -/
def topEndsUptoCard : Claim7 := { stood := { row := topEndsUptoRow, standIns := [], harness := (true, "dfb1f2462c74867c87c9cbdb76783440988645cdb00d97c19249528450f76ff1"), looks := false }, kinds := [], alts := [], laidByText := true, laidKinds := [.data, .widerDeep, .data, .pinned], laidTests := true, laidLooks := .later }
def TopEndsUptoCardSaid : Prop := Claim7.holds Tryd.pinned (.plain (OpenSpec.upto topEndsSpec)) topEndsUptoCard

/-- THE SECOND FORM's CARD OF 'plumblinetop.TopRuns'. -/
def topRunsUptoCard : Claim7 := { stood := { row := topRunsUptoRow, standIns := [], harness := (true, "dfb1f2462c74867c87c9cbdb76783440988645cdb00d97c19249528450f76ff1"), looks := false }, kinds := [], alts := [], laidByText := true, laidKinds := [.data, .widerDeep, .data, .pinned], laidTests := true, laidLooks := .later }
def TopRunsUptoCardSaid : Prop := Claim7.holds Tryd.pinned (.plain (OpenSpec.upto topRunsSpec)) topRunsUptoCard

/-- THE SECOND FORM's CARD OF 'plumblinetop.TopScored'. -/
def topScoredUptoCard : Claim7 := { stood := { row := topScoredUptoRow, standIns := [], harness := (true, "dfb1f2462c74867c87c9cbdb76783440988645cdb00d97c19249528450f76ff1"), looks := false }, kinds := [], alts := [], laidByText := true, laidKinds := [.data, .widerDeep, .data, .pinned], laidTests := true, laidLooks := .later }
def TopScoredUptoCardSaid : Prop := Claim7.holds Tryd.pinned (.plain (OpenSpec.upto topScoredSpec)) topScoredUptoCard

/-- THE SECOND FORM's CARD OF 'plumblinetop.TopWhole'. -/
def topWholeUptoCard : Claim7 := { stood := { row := topWholeUptoRow, standIns := [], harness := (true, "dfb1f2462c74867c87c9cbdb76783440988645cdb00d97c19249528450f76ff1"), looks := false }, kinds := [], alts := [], laidByText := true, laidKinds := [.data, .widerDeep, .data, .pinned], laidTests := true, laidLooks := .later }
def TopWholeUptoCardSaid : Prop := Claim7.holds Tryd.pinned (.plain (OpenSpec.upto topWholeSpec)) topWholeUptoCard
end Rows
end Go.Proofs.YtefohnbmifblkabDoor
