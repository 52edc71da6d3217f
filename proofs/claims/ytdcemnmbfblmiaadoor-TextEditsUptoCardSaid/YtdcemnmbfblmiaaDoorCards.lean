/-
  DERIVED. GIVEN WITH THE SEED: THE CARDS: each row of YtdcemnmbfblmiaaDoorRows.lean that lists a variable, with what it lists TIED to the program's text (the seventh form; the later family's looks); each row that meets fmt, with fmt's text TOLD by the authors' own Lean function (tested against real Go, not proved from fmt's source: count such statements apart). THE CARD IS WHAT COUNTS. Prove the row's statement (the work); the ties are given (YtdcemnmbfblmiaaDoorTie.lean); close each card by the builder's one call (the guide's Derived/Test/ToyasCard.lean, 'card_holds'). Laid BY PROGRAM, IN A SANDBOX (cutbox-door.mjs). By AI agents, Wed Nov 11 2026. No macro, syntax, notation, axiom, sorry.
-/
import Derived.Test.YtdcemnmbfblmiaaDoorRows
import GoSem.ClaimSeven
namespace Go.Proofs.YtdcemnmbfblmiaaDoor
namespace Rows

/-- THE TIED CARD OF 'mjolnerlaw03.TextMatchesReference'. -/
def textMatchesReferenceCard : Claim7 := { stood := { row := textMatchesReferenceRow, standIns := [], harness := (true, "50d3b86888ddfb4f17c1e2f8844ea6d5a62c4074c7ff4aae79cd5e5d9826cce5"), looks := true }, kinds := [], alts := [], laidByText := true, laidKinds := [.widerDeep], laidTests := true, laidLooks := .later }
def TextMatchesReferenceCardSaid : Prop := Claim7.holds Tryd.pinned (.plain (OpenSpec.ofChange textMatchesReferenceSpec)) textMatchesReferenceCard

/-- THE TIED CARD OF 'mjolnerlaw03.TextParts'. -/
def textPartsCard : Claim7 := { stood := { row := textPartsRow, standIns := [], harness := (true, "50d3b86888ddfb4f17c1e2f8844ea6d5a62c4074c7ff4aae79cd5e5d9826cce5"), looks := true }, kinds := [], alts := [], laidByText := true, laidKinds := [.widerDeep], laidTests := true, laidLooks := .later }
def TextPartsCardSaid : Prop := Claim7.holds Tryd.pinned (.plain (OpenSpec.ofChange textPartsSpec)) textPartsCard

/-- THE TIED CARD OF 'mjolnerlaw03.TextShows'. -/
def textShowsCard : Claim7 := { stood := { row := textShowsRow, standIns := [], harness := (true, "50d3b86888ddfb4f17c1e2f8844ea6d5a62c4074c7ff4aae79cd5e5d9826cce5"), looks := true }, kinds := [], alts := [], laidByText := true, laidKinds := [.widerDeep], laidTests := true, laidLooks := .later }
def TextShowsCardSaid : Prop := Claim7.holds Tryd.pinned (.plain (OpenSpec.ofChange textShowsSpec)) textShowsCard

/-- THE TIED CARD OF 'mjolnerlaw03.TextPlaces'. -/
def textPlacesCard : Claim7 := { stood := { row := textPlacesRow, standIns := [], harness := (true, "50d3b86888ddfb4f17c1e2f8844ea6d5a62c4074c7ff4aae79cd5e5d9826cce5"), looks := true }, kinds := [], alts := [], laidByText := true, laidKinds := [.widerDeep], laidTests := true, laidLooks := .later }
def TextPlacesCardSaid : Prop := Claim7.holds Tryd.pinned (.plain (OpenSpec.ofChange textPlacesSpec)) textPlacesCard

/-- THE TIED CARD OF 'mjolnerlaw03.TextEdits'. -/
def textEditsCard : Claim7 := { stood := { row := textEditsRow, standIns := [], harness := (true, "50d3b86888ddfb4f17c1e2f8844ea6d5a62c4074c7ff4aae79cd5e5d9826cce5"), looks := true }, kinds := [], alts := [], laidByText := true, laidKinds := [.widerDeep], laidTests := true, laidLooks := .later }
def TextEditsCardSaid : Prop := Claim7.holds Tryd.pinned (.plain (OpenSpec.ofChange textEditsSpec)) textEditsCard

/-- THE TIED CARD OF 'mjolnerlaw03.TextCats'. -/
def textCatsCard : Claim7 := { stood := { row := textCatsRow, standIns := [], harness := (true, "50d3b86888ddfb4f17c1e2f8844ea6d5a62c4074c7ff4aae79cd5e5d9826cce5"), looks := true }, kinds := [], alts := [], laidByText := true, laidKinds := [.widerDeep], laidTests := true, laidLooks := .later }
def TextCatsCardSaid : Prop := Claim7.holds Tryd.pinned (.plain (OpenSpec.ofChange textCatsSpec)) textCatsCard

/-- THE TIED CARD OF 'mjolnerlaw03.TextFinds'. -/
def textFindsCard : Claim7 := { stood := { row := textFindsRow, standIns := [], harness := (true, "50d3b86888ddfb4f17c1e2f8844ea6d5a62c4074c7ff4aae79cd5e5d9826cce5"), looks := true }, kinds := [], alts := [], laidByText := true, laidKinds := [.widerDeep], laidTests := true, laidLooks := .later }
def TextFindsCardSaid : Prop := Claim7.holds Tryd.pinned (.plain (OpenSpec.ofChange textFindsSpec)) textFindsCard

/-- THE TIED CARD OF 'mjolnerlaw03.TextJoins'. -/
def textJoinsCard : Claim7 := { stood := { row := textJoinsRow, standIns := [], harness := (true, "50d3b86888ddfb4f17c1e2f8844ea6d5a62c4074c7ff4aae79cd5e5d9826cce5"), looks := true }, kinds := [], alts := [], laidByText := true, laidKinds := [.widerDeep], laidTests := true, laidLooks := .later }
def TextJoinsCardSaid : Prop := Claim7.holds Tryd.pinned (.plain (OpenSpec.ofChange textJoinsSpec)) textJoinsCard

/-- THE TIED CARD OF 'mjolnerlaw03.TextBack'. -/
def textBackCard : Claim7 := { stood := { row := textBackRow, standIns := [], harness := (true, "50d3b86888ddfb4f17c1e2f8844ea6d5a62c4074c7ff4aae79cd5e5d9826cce5"), looks := true }, kinds := [], alts := [], laidByText := true, laidKinds := [.widerDeep], laidTests := true, laidLooks := .later }
def TextBackCardSaid : Prop := Claim7.holds Tryd.pinned (.plain (OpenSpec.ofChange textBackSpec)) textBackCard

/-- THE TIED CARD OF 'mjolnerlaw03.TextLines'. -/
def textLinesCard : Claim7 := { stood := { row := textLinesRow, standIns := [], harness := (true, "50d3b86888ddfb4f17c1e2f8844ea6d5a62c4074c7ff4aae79cd5e5d9826cce5"), looks := true }, kinds := [], alts := [], laidByText := true, laidKinds := [.widerDeep], laidTests := true, laidLooks := .later }
def TextLinesCardSaid : Prop := Claim7.holds Tryd.pinned (.plain (OpenSpec.ofChange textLinesSpec)) textLinesCard

/-- THE TIED CARD OF 'mjolnerlaw03.TextDiffs'. -/
def textDiffsCard : Claim7 := { stood := { row := textDiffsRow, standIns := [], harness := (true, "50d3b86888ddfb4f17c1e2f8844ea6d5a62c4074c7ff4aae79cd5e5d9826cce5"), looks := true }, kinds := [], alts := [], laidByText := true, laidKinds := [.widerDeep], laidTests := true, laidLooks := .later }
def TextDiffsCardSaid : Prop := Claim7.holds Tryd.pinned (.plain (OpenSpec.ofChange textDiffsSpec)) textDiffsCard

/-- THE TIED CARD OF 'mjolnerlaw03.TextInverts'. -/
def textInvertsCard : Claim7 := { stood := { row := textInvertsRow, standIns := [], harness := (true, "50d3b86888ddfb4f17c1e2f8844ea6d5a62c4074c7ff4aae79cd5e5d9826cce5"), looks := true }, kinds := [], alts := [], laidByText := true, laidKinds := [.widerDeep], laidTests := true, laidLooks := .later }
def TextInvertsCardSaid : Prop := Claim7.holds Tryd.pinned (.plain (OpenSpec.ofChange textInvertsSpec)) textInvertsCard

/-- THE TIED CARD OF 'mjolnerlaw03.TextMerges'. -/
def textMergesCard : Claim7 := { stood := { row := textMergesRow, standIns := [], harness := (true, "50d3b86888ddfb4f17c1e2f8844ea6d5a62c4074c7ff4aae79cd5e5d9826cce5"), looks := true }, kinds := [], alts := [], laidByText := true, laidKinds := [.widerDeep], laidTests := true, laidLooks := .later }
def TextMergesCardSaid : Prop := Claim7.holds Tryd.pinned (.plain (OpenSpec.ofChange textMergesSpec)) textMergesCard

/-- THE TIED CARD OF 'mjolnerlaw03.TextMoves'. -/
def textMovesCard : Claim7 := { stood := { row := textMovesRow, standIns := [], harness := (true, "50d3b86888ddfb4f17c1e2f8844ea6d5a62c4074c7ff4aae79cd5e5d9826cce5"), looks := true }, kinds := [], alts := [], laidByText := true, laidKinds := [.widerDeep], laidTests := true, laidLooks := .later }
def TextMovesCardSaid : Prop := Claim7.holds Tryd.pinned (.plain (OpenSpec.ofChange textMovesSpec)) textMovesCard

/-- THE SECOND FORM's CARD OF 'mjolnerlaw03.TextMatchesReference'. -/
def textMatchesReferenceUptoCard : Claim7 := { stood := { row := textMatchesReferenceUptoRow, standIns := [], harness := (true, "50d3b86888ddfb4f17c1e2f8844ea6d5a62c4074c7ff4aae79cd5e5d9826cce5"), looks := true }, kinds := [], alts := [], laidByText := true, laidKinds := [.widerDeep], laidTests := true, laidLooks := .later }
def TextMatchesReferenceUptoCardSaid : Prop := Claim7.holds Tryd.pinned (.plain (OpenSpec.upto textMatchesReferenceSpec)) textMatchesReferenceUptoCard

/-- THE SECOND FORM's CARD OF 'mjolnerlaw03.TextParts'. -/
def textPartsUptoCard : Claim7 := { stood := { row := textPartsUptoRow, standIns := [], harness := (true, "50d3b86888ddfb4f17c1e2f8844ea6d5a62c4074c7ff4aae79cd5e5d9826cce5"), looks := true }, kinds := [], alts := [], laidByText := true, laidKinds := [.widerDeep], laidTests := true, laidLooks := .later }
def TextPartsUptoCardSaid : Prop := Claim7.holds Tryd.pinned (.plain (OpenSpec.upto textPartsSpec)) textPartsUptoCard

/-- THE SECOND FORM's CARD OF 'mjolnerlaw03.TextShows'. -/
def textShowsUptoCard : Claim7 := { stood := { row := textShowsUptoRow, standIns := [], harness := (true, "50d3b86888ddfb4f17c1e2f8844ea6d5a62c4074c7ff4aae79cd5e5d9826cce5"), looks := true }, kinds := [], alts := [], laidByText := true, laidKinds := [.widerDeep], laidTests := true, laidLooks := .later }
def TextShowsUptoCardSaid : Prop := Claim7.holds Tryd.pinned (.plain (OpenSpec.upto textShowsSpec)) textShowsUptoCard

/-- THE SECOND FORM's CARD OF 'mjolnerlaw03.TextPlaces'. -/
def textPlacesUptoCard : Claim7 := { stood := { row := textPlacesUptoRow, standIns := [], harness := (true, "50d3b86888ddfb4f17c1e2f8844ea6d5a62c4074c7ff4aae79cd5e5d9826cce5"), looks := true }, kinds := [], alts := [], laidByText := true, laidKinds := [.widerDeep], laidTests := true, laidLooks := .later }
def TextPlacesUptoCardSaid : Prop := Claim7.holds Tryd.pinned (.plain (OpenSpec.upto textPlacesSpec)) textPlacesUptoCard

/-- THE SECOND FORM's CARD OF 'mjolnerlaw03.TextEdits'. -/
def textEditsUptoCard : Claim7 := { stood := { row := textEditsUptoRow, standIns := [], harness := (true, "50d3b86888ddfb4f17c1e2f8844ea6d5a62c4074c7ff4aae79cd5e5d9826cce5"), looks := true }, kinds := [], alts := [], laidByText := true, laidKinds := [.widerDeep], laidTests := true, laidLooks := .later }
def TextEditsUptoCardSaid : Prop := Claim7.holds Tryd.pinned (.plain (OpenSpec.upto textEditsSpec)) textEditsUptoCard

/-- THE SECOND FORM's CARD OF 'mjolnerlaw03.TextCats'. -/
def textCatsUptoCard : Claim7 := { stood := { row := textCatsUptoRow, standIns := [], harness := (true, "50d3b86888ddfb4f17c1e2f8844ea6d5a62c4074c7ff4aae79cd5e5d9826cce5"), looks := true }, kinds := [], alts := [], laidByText := true, laidKinds := [.widerDeep], laidTests := true, laidLooks := .later }
def TextCatsUptoCardSaid : Prop := Claim7.holds Tryd.pinned (.plain (OpenSpec.upto textCatsSpec)) textCatsUptoCard

/-- THE SECOND FORM's CARD OF 'mjolnerlaw03.TextFinds'. -/
def textFindsUptoCard : Claim7 := { stood := { row := textFindsUptoRow, standIns := [], harness := (true, "50d3b86888ddfb4f17c1e2f8844ea6d5a62c4074c7ff4aae79cd5e5d9826cce5"), looks := true }, kinds := [], alts := [], laidByText := true, laidKinds := [.widerDeep], laidTests := true, laidLooks := .later }
def TextFindsUptoCardSaid : Prop := Claim7.holds Tryd.pinned (.plain (OpenSpec.upto textFindsSpec)) textFindsUptoCard

/-- THE SECOND FORM's CARD OF 'mjolnerlaw03.TextJoins'. -/
def textJoinsUptoCard : Claim7 := { stood := { row := textJoinsUptoRow, standIns := [], harness := (true, "50d3b86888ddfb4f17c1e2f8844ea6d5a62c4074c7ff4aae79cd5e5d9826cce5"), looks := true }, kinds := [], alts := [], laidByText := true, laidKinds := [.widerDeep], laidTests := true, laidLooks := .later }
def TextJoinsUptoCardSaid : Prop := Claim7.holds Tryd.pinned (.plain (OpenSpec.upto textJoinsSpec)) textJoinsUptoCard

/-- THE SECOND FORM's CARD OF 'mjolnerlaw03.TextBack'. -/
def textBackUptoCard : Claim7 := { stood := { row := textBackUptoRow, standIns := [], harness := (true, "50d3b86888ddfb4f17c1e2f8844ea6d5a62c4074c7ff4aae79cd5e5d9826cce5"), looks := true }, kinds := [], alts := [], laidByText := true, laidKinds := [.widerDeep], laidTests := true, laidLooks := .later }
def TextBackUptoCardSaid : Prop := Claim7.holds Tryd.pinned (.plain (OpenSpec.upto textBackSpec)) textBackUptoCard

/-- THE SECOND FORM's CARD OF 'mjolnerlaw03.TextLines'. -/
def textLinesUptoCard : Claim7 := { stood := { row := textLinesUptoRow, standIns := [], harness := (true, "50d3b86888ddfb4f17c1e2f8844ea6d5a62c4074c7ff4aae79cd5e5d9826cce5"), looks := true }, kinds := [], alts := [], laidByText := true, laidKinds := [.widerDeep], laidTests := true, laidLooks := .later }
def TextLinesUptoCardSaid : Prop := Claim7.holds Tryd.pinned (.plain (OpenSpec.upto textLinesSpec)) textLinesUptoCard

/-- THE SECOND FORM's CARD OF 'mjolnerlaw03.TextDiffs'. -/
def textDiffsUptoCard : Claim7 := { stood := { row := textDiffsUptoRow, standIns := [], harness := (true, "50d3b86888ddfb4f17c1e2f8844ea6d5a62c4074c7ff4aae79cd5e5d9826cce5"), looks := true }, kinds := [], alts := [], laidByText := true, laidKinds := [.widerDeep], laidTests := true, laidLooks := .later }
def TextDiffsUptoCardSaid : Prop := Claim7.holds Tryd.pinned (.plain (OpenSpec.upto textDiffsSpec)) textDiffsUptoCard

/-- THE SECOND FORM's CARD OF 'mjolnerlaw03.TextInverts'. -/
def textInvertsUptoCard : Claim7 := { stood := { row := textInvertsUptoRow, standIns := [], harness := (true, "50d3b86888ddfb4f17c1e2f8844ea6d5a62c4074c7ff4aae79cd5e5d9826cce5"), looks := true }, kinds := [], alts := [], laidByText := true, laidKinds := [.widerDeep], laidTests := true, laidLooks := .later }
def TextInvertsUptoCardSaid : Prop := Claim7.holds Tryd.pinned (.plain (OpenSpec.upto textInvertsSpec)) textInvertsUptoCard

/-- THE SECOND FORM's CARD OF 'mjolnerlaw03.TextMerges'. -/
def textMergesUptoCard : Claim7 := { stood := { row := textMergesUptoRow, standIns := [], harness := (true, "50d3b86888ddfb4f17c1e2f8844ea6d5a62c4074c7ff4aae79cd5e5d9826cce5"), looks := true }, kinds := [], alts := [], laidByText := true, laidKinds := [.widerDeep], laidTests := true, laidLooks := .later }
def TextMergesUptoCardSaid : Prop := Claim7.holds Tryd.pinned (.plain (OpenSpec.upto textMergesSpec)) textMergesUptoCard

/-- THE SECOND FORM's CARD OF 'mjolnerlaw03.TextMoves'. -/
def textMovesUptoCard : Claim7 := { stood := { row := textMovesUptoRow, standIns := [], harness := (true, "50d3b86888ddfb4f17c1e2f8844ea6d5a62c4074c7ff4aae79cd5e5d9826cce5"), looks := true }, kinds := [], alts := [], laidByText := true, laidKinds := [.widerDeep], laidTests := true, laidLooks := .later }
def TextMovesUptoCardSaid : Prop := Claim7.holds Tryd.pinned (.plain (OpenSpec.upto textMovesSpec)) textMovesUptoCard
end Rows
end Go.Proofs.YtdcemnmbfblmiaaDoor
