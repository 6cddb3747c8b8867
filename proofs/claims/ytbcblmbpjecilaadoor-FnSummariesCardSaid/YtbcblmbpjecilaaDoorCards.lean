/-
  DERIVED. GIVEN WITH THE SEED: THE CARDS: each row of YtbcblmbpjecilaaDoorRows.lean that lists a variable, with what it lists TIED to the program's text (the seventh form; the later family's looks); each row that meets fmt, with fmt's text TOLD by the authors' own Lean function (tested against real Go, not proved from fmt's source: count such statements apart). THE CARD IS WHAT COUNTS. Prove the row's statement (the work); the ties are given (YtbcblmbpjecilaaDoorTie.lean); close each card by the builder's one call (the guide's Derived/Test/ToyasCard.lean, 'card_holds'). Laid BY PROGRAM, IN A SANDBOX (cutbox-door.mjs). By AI agents, Wed Nov 11 2026. No macro, syntax, notation, axiom, sorry.
-/
import Derived.Test.YtbcblmbpjecilaaDoorRows
import GoSem.ClaimSeven
namespace Go.Proofs.YtbcblmbpjecilaaDoor
namespace Rows

/-- THE TIED CARD OF 'laws.FnExactClockText'. -/
def fnExactClockTextCard : Claim7 := { stood := { row := fnExactClockTextRow, standIns := [], harness := (true, "be89b6e39e87a91fb66b5d7ea4607fb7899ab931fdfb16b026ad6fc70764d0e6"), looks := true }, kinds := [], alts := [], laidByText := true, laidKinds := [.data, .data, .data], laidTests := true, laidLooks := .later }
def FnExactClockTextCardSaid : Prop := Claim7.holds Tryd.pinned (.plain (OpenSpec.ofChange fnExactClockTextSpec)) fnExactClockTextCard

/-- THE TIED CARD OF 'laws.FnExactParseClock'. -/
def fnExactParseClockCard : Claim7 := { stood := { row := fnExactParseClockRow, standIns := [], harness := (true, "be89b6e39e87a91fb66b5d7ea4607fb7899ab931fdfb16b026ad6fc70764d0e6"), looks := true }, kinds := [], alts := [], laidByText := true, laidKinds := [.data, .data, .data, .data, .sentinel, .sentinel, .pinned], laidTests := true, laidLooks := .later }
def FnExactParseClockCardSaid : Prop := Claim7.holds Tryd.pinned (.plain (OpenSpec.ofChange fnExactParseClockSpec)) fnExactParseClockCard

/-- THE TIED CARD OF 'laws.FnExactRaceSummary'. -/
def fnExactRaceSummaryCard : Claim7 := { stood := { row := fnExactRaceSummaryRow, standIns := [], harness := (true, "be89b6e39e87a91fb66b5d7ea4607fb7899ab931fdfb16b026ad6fc70764d0e6"), looks := true }, kinds := [], alts := [], laidByText := true, laidKinds := [.data, .data, .data], laidTests := true, laidLooks := .later }
def FnExactRaceSummaryCardSaid : Prop := Claim7.holds Tryd.pinned (.plain (OpenSpec.ofChange fnExactRaceSummarySpec)) fnExactRaceSummaryCard

/-- THE TIED CARD OF 'laws.FnExactReportText'. -/
def fnExactReportTextCard : Claim7 := { stood := { row := fnExactReportTextRow, standIns := [], harness := (true, "be89b6e39e87a91fb66b5d7ea4607fb7899ab931fdfb16b026ad6fc70764d0e6"), looks := true }, kinds := [], alts := [], laidByText := true, laidKinds := [.data, .data, .data], laidTests := true, laidLooks := .later }
def FnExactReportTextCardSaid : Prop := Claim7.holds Tryd.pinned (.plain (OpenSpec.ofChange fnExactReportTextSpec)) fnExactReportTextCard

/-- THE TIED CARD OF 'laws.FnSummaries'. -/
def fnSummariesCard : Claim7 := { stood := { row := fnSummariesRow, standIns := [], harness := (true, "be89b6e39e87a91fb66b5d7ea4607fb7899ab931fdfb16b026ad6fc70764d0e6"), looks := true }, kinds := [], alts := [], laidByText := true, laidKinds := [.data, .data, .data], laidTests := true, laidLooks := .later }
def FnSummariesCardSaid : Prop := Claim7.holds Tryd.pinned (.plain (OpenSpec.ofChange fnSummariesSpec)) fnSummariesCard

/-- THE SECOND FORM's CARD OF 'laws.FnExactClockText'. -/
def fnExactClockTextUptoCard : Claim7 := { stood := { row := fnExactClockTextUptoRow, standIns := [], harness := (true, "be89b6e39e87a91fb66b5d7ea4607fb7899ab931fdfb16b026ad6fc70764d0e6"), looks := true }, kinds := [], alts := [], laidByText := true, laidKinds := [.data, .data, .data], laidTests := true, laidLooks := .later }
def FnExactClockTextUptoCardSaid : Prop := Claim7.holds Tryd.pinned (.plain (OpenSpec.upto fnExactClockTextSpec)) fnExactClockTextUptoCard

/-- THE SECOND FORM's CARD OF 'laws.FnExactParseClock'. -/
def fnExactParseClockUptoCard : Claim7 := { stood := { row := fnExactParseClockUptoRow, standIns := [], harness := (true, "be89b6e39e87a91fb66b5d7ea4607fb7899ab931fdfb16b026ad6fc70764d0e6"), looks := true }, kinds := [], alts := [], laidByText := true, laidKinds := [.data, .data, .data, .data, .sentinel, .sentinel, .pinned], laidTests := true, laidLooks := .later }
def FnExactParseClockUptoCardSaid : Prop := Claim7.holds Tryd.pinned (.plain (OpenSpec.upto fnExactParseClockSpec)) fnExactParseClockUptoCard

/-- THE SECOND FORM's CARD OF 'laws.FnExactRaceSummary'. -/
def fnExactRaceSummaryUptoCard : Claim7 := { stood := { row := fnExactRaceSummaryUptoRow, standIns := [], harness := (true, "be89b6e39e87a91fb66b5d7ea4607fb7899ab931fdfb16b026ad6fc70764d0e6"), looks := true }, kinds := [], alts := [], laidByText := true, laidKinds := [.data, .data, .data], laidTests := true, laidLooks := .later }
def FnExactRaceSummaryUptoCardSaid : Prop := Claim7.holds Tryd.pinned (.plain (OpenSpec.upto fnExactRaceSummarySpec)) fnExactRaceSummaryUptoCard

/-- THE SECOND FORM's CARD OF 'laws.FnExactReportText'. -/
def fnExactReportTextUptoCard : Claim7 := { stood := { row := fnExactReportTextUptoRow, standIns := [], harness := (true, "be89b6e39e87a91fb66b5d7ea4607fb7899ab931fdfb16b026ad6fc70764d0e6"), looks := true }, kinds := [], alts := [], laidByText := true, laidKinds := [.data, .data, .data], laidTests := true, laidLooks := .later }
def FnExactReportTextUptoCardSaid : Prop := Claim7.holds Tryd.pinned (.plain (OpenSpec.upto fnExactReportTextSpec)) fnExactReportTextUptoCard

/-- THE SECOND FORM's CARD OF 'laws.FnSummaries'. -/
def fnSummariesUptoCard : Claim7 := { stood := { row := fnSummariesUptoRow, standIns := [], harness := (true, "be89b6e39e87a91fb66b5d7ea4607fb7899ab931fdfb16b026ad6fc70764d0e6"), looks := true }, kinds := [], alts := [], laidByText := true, laidKinds := [.data, .data, .data], laidTests := true, laidLooks := .later }
def FnSummariesUptoCardSaid : Prop := Claim7.holds Tryd.pinned (.plain (OpenSpec.upto fnSummariesSpec)) fnSummariesUptoCard
end Rows
end Go.Proofs.YtbcblmbpjecilaaDoor
