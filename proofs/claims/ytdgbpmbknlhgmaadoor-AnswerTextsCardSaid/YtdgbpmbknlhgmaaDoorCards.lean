/-
  DERIVED. GIVEN WITH THE SEED: THE CARDS: each row of YtdgbpmbknlhgmaaDoorRows.lean that lists a variable, with what it lists TIED to the program's text (the seventh form; the later family's looks); each row that meets fmt, with fmt's text TOLD by the authors' own Lean function (tested against real Go, not proved from fmt's source: count such statements apart). THE CARD IS WHAT COUNTS. Prove the row's statement (the work); the ties are given (YtdgbpmbknlhgmaaDoorTie.lean); close each card by the builder's one call (the guide's Derived/Test/ToyasCard.lean, 'card_holds'). Laid BY PROGRAM, IN A SANDBOX (cutbox-door.mjs). By AI agents, Wed Nov 11 2026. No macro, syntax, notation, axiom, sorry.
-/
import Derived.Test.YtdgbpmbknlhgmaaDoorRows
import GoSem.ClaimSeven
namespace Go.Proofs.YtdgbpmbknlhgmaaDoor
namespace Rows

/-- THE TIED CARD OF 'changeoverlaw06.QuoteTexts'. -/
def quoteTextsCard : Claim7 := { stood := { row := quoteTextsRow, standIns := [], harness := (true, "9564b4bb284b0ab408137469bc076b7dad5a33e5e0f9cce0e1777ec67d8db5fc"), looks := true }, kinds := [], alts := [], laidByText := true, laidKinds := [.data, .pinned], laidTests := true, laidLooks := .later }
def QuoteTextsCardSaid : Prop := Claim7.holds Tryd.pinned (.plain (OpenSpec.ofChange quoteTextsSpec)) quoteTextsCard

/-- THE TIED CARD OF 'changeoverlaw06.QuoteReads'. -/
def quoteReadsCard : Claim7 := { stood := { row := quoteReadsRow, standIns := [], harness := (true, "9564b4bb284b0ab408137469bc076b7dad5a33e5e0f9cce0e1777ec67d8db5fc"), looks := true }, kinds := [], alts := [], laidByText := true, laidKinds := [.data, .pinned], laidTests := true, laidLooks := .later }
def QuoteReadsCardSaid : Prop := Claim7.holds Tryd.pinned (.plain (OpenSpec.ofChange quoteReadsSpec)) quoteReadsCard

/-- THE TIED CARD OF 'changeoverlaw06.QuoteLines'. -/
def quoteLinesCard : Claim7 := { stood := { row := quoteLinesRow, standIns := [], harness := (true, "9564b4bb284b0ab408137469bc076b7dad5a33e5e0f9cce0e1777ec67d8db5fc"), looks := true }, kinds := [], alts := [], laidByText := true, laidKinds := [.data, .pinned], laidTests := true, laidLooks := .later }
def QuoteLinesCardSaid : Prop := Claim7.holds Tryd.pinned (.plain (OpenSpec.ofChange quoteLinesSpec)) quoteLinesCard

/-- THE TIED CARD OF 'changeoverlaw06.QuoteWords'. -/
def quoteWordsCard : Claim7 := { stood := { row := quoteWordsRow, standIns := [], harness := (true, "9564b4bb284b0ab408137469bc076b7dad5a33e5e0f9cce0e1777ec67d8db5fc"), looks := true }, kinds := [], alts := [], laidByText := true, laidKinds := [.data, .pinned], laidTests := true, laidLooks := .later }
def QuoteWordsCardSaid : Prop := Claim7.holds Tryd.pinned (.plain (OpenSpec.ofChange quoteWordsSpec)) quoteWordsCard

/-- THE TIED CARD OF 'changeoverlaw09.AnswerDecodes'. -/
def answerDecodesCard : Claim7 := { stood := { row := answerDecodesRow, standIns := [], harness := (true, "9564b4bb284b0ab408137469bc076b7dad5a33e5e0f9cce0e1777ec67d8db5fc"), looks := true }, kinds := [], alts := [], laidByText := true, laidKinds := [.data, .data, .data, .data, .pinned], laidTests := true, laidLooks := .later }
def AnswerDecodesCardSaid : Prop := Claim7.holds Tryd.pinned (.plain (OpenSpec.ofChange answerDecodesSpec)) answerDecodesCard

/-- THE TIED CARD OF 'changeoverlaw08.CmdChecks'. -/
def cmdChecksCard : Claim7 := { stood := { row := cmdChecksRow, standIns := [], harness := (true, "9564b4bb284b0ab408137469bc076b7dad5a33e5e0f9cce0e1777ec67d8db5fc"), looks := true }, kinds := [], alts := [], laidByText := true, laidKinds := [.data, .data, .data, .data, .pinned], laidTests := true, laidLooks := .later }
def CmdChecksCardSaid : Prop := Claim7.holds Tryd.pinned (.plain (OpenSpec.ofChange cmdChecksSpec)) cmdChecksCard

/-- THE TIED CARD OF 'changeoverlaw09.AnswerEncodes'. -/
def answerEncodesCard : Claim7 := { stood := { row := answerEncodesRow, standIns := [], harness := (true, "9564b4bb284b0ab408137469bc076b7dad5a33e5e0f9cce0e1777ec67d8db5fc"), looks := true }, kinds := [], alts := [], laidByText := true, laidKinds := [.data, .data, .data, .data, .pinned], laidTests := true, laidLooks := .later }
def AnswerEncodesCardSaid : Prop := Claim7.holds Tryd.pinned (.plain (OpenSpec.ofChange answerEncodesSpec)) answerEncodesCard

/-- THE TIED CARD OF 'changeoverlaw08.CmdDecodes'. -/
def cmdDecodesCard : Claim7 := { stood := { row := cmdDecodesRow, standIns := [], harness := (true, "9564b4bb284b0ab408137469bc076b7dad5a33e5e0f9cce0e1777ec67d8db5fc"), looks := true }, kinds := [], alts := [], laidByText := true, laidKinds := [.data, .data, .data, .data, .pinned], laidTests := true, laidLooks := .later }
def CmdDecodesCardSaid : Prop := Claim7.holds Tryd.pinned (.plain (OpenSpec.ofChange cmdDecodesSpec)) cmdDecodesCard

/-- THE TIED CARD OF 'changeoverlaw09.AnswerTexts'. -/
def answerTextsCard : Claim7 := { stood := { row := answerTextsRow, standIns := [], harness := (true, "9564b4bb284b0ab408137469bc076b7dad5a33e5e0f9cce0e1777ec67d8db5fc"), looks := true }, kinds := [], alts := [], laidByText := true, laidKinds := [.data, .data, .data, .data, .sentinel, .sentinel, .pinned], laidTests := true, laidLooks := .later }
def AnswerTextsCardSaid : Prop := Claim7.holds Tryd.pinned (.plain (OpenSpec.ofChange answerTextsSpec)) answerTextsCard

/-- THE SECOND FORM's CARD OF 'changeoverlaw06.QuoteTexts'. -/
def quoteTextsUptoCard : Claim7 := { stood := { row := quoteTextsUptoRow, standIns := [], harness := (true, "9564b4bb284b0ab408137469bc076b7dad5a33e5e0f9cce0e1777ec67d8db5fc"), looks := true }, kinds := [], alts := [], laidByText := true, laidKinds := [.data, .pinned], laidTests := true, laidLooks := .later }
def QuoteTextsUptoCardSaid : Prop := Claim7.holds Tryd.pinned (.plain (OpenSpec.upto quoteTextsSpec)) quoteTextsUptoCard

/-- THE SECOND FORM's CARD OF 'changeoverlaw06.QuoteReads'. -/
def quoteReadsUptoCard : Claim7 := { stood := { row := quoteReadsUptoRow, standIns := [], harness := (true, "9564b4bb284b0ab408137469bc076b7dad5a33e5e0f9cce0e1777ec67d8db5fc"), looks := true }, kinds := [], alts := [], laidByText := true, laidKinds := [.data, .pinned], laidTests := true, laidLooks := .later }
def QuoteReadsUptoCardSaid : Prop := Claim7.holds Tryd.pinned (.plain (OpenSpec.upto quoteReadsSpec)) quoteReadsUptoCard

/-- THE SECOND FORM's CARD OF 'changeoverlaw06.QuoteLines'. -/
def quoteLinesUptoCard : Claim7 := { stood := { row := quoteLinesUptoRow, standIns := [], harness := (true, "9564b4bb284b0ab408137469bc076b7dad5a33e5e0f9cce0e1777ec67d8db5fc"), looks := true }, kinds := [], alts := [], laidByText := true, laidKinds := [.data, .pinned], laidTests := true, laidLooks := .later }
def QuoteLinesUptoCardSaid : Prop := Claim7.holds Tryd.pinned (.plain (OpenSpec.upto quoteLinesSpec)) quoteLinesUptoCard

/-- THE SECOND FORM's CARD OF 'changeoverlaw06.QuoteWords'. -/
def quoteWordsUptoCard : Claim7 := { stood := { row := quoteWordsUptoRow, standIns := [], harness := (true, "9564b4bb284b0ab408137469bc076b7dad5a33e5e0f9cce0e1777ec67d8db5fc"), looks := true }, kinds := [], alts := [], laidByText := true, laidKinds := [.data, .pinned], laidTests := true, laidLooks := .later }
def QuoteWordsUptoCardSaid : Prop := Claim7.holds Tryd.pinned (.plain (OpenSpec.upto quoteWordsSpec)) quoteWordsUptoCard

/-- THE SECOND FORM's CARD OF 'changeoverlaw09.AnswerDecodes'. -/
def answerDecodesUptoCard : Claim7 := { stood := { row := answerDecodesUptoRow, standIns := [], harness := (true, "9564b4bb284b0ab408137469bc076b7dad5a33e5e0f9cce0e1777ec67d8db5fc"), looks := true }, kinds := [], alts := [], laidByText := true, laidKinds := [.data, .data, .data, .data, .pinned], laidTests := true, laidLooks := .later }
def AnswerDecodesUptoCardSaid : Prop := Claim7.holds Tryd.pinned (.plain (OpenSpec.upto answerDecodesSpec)) answerDecodesUptoCard

/-- THE SECOND FORM's CARD OF 'changeoverlaw08.CmdChecks'. -/
def cmdChecksUptoCard : Claim7 := { stood := { row := cmdChecksUptoRow, standIns := [], harness := (true, "9564b4bb284b0ab408137469bc076b7dad5a33e5e0f9cce0e1777ec67d8db5fc"), looks := true }, kinds := [], alts := [], laidByText := true, laidKinds := [.data, .data, .data, .data, .pinned], laidTests := true, laidLooks := .later }
def CmdChecksUptoCardSaid : Prop := Claim7.holds Tryd.pinned (.plain (OpenSpec.upto cmdChecksSpec)) cmdChecksUptoCard

/-- THE SECOND FORM's CARD OF 'changeoverlaw09.AnswerEncodes'. -/
def answerEncodesUptoCard : Claim7 := { stood := { row := answerEncodesUptoRow, standIns := [], harness := (true, "9564b4bb284b0ab408137469bc076b7dad5a33e5e0f9cce0e1777ec67d8db5fc"), looks := true }, kinds := [], alts := [], laidByText := true, laidKinds := [.data, .data, .data, .data, .pinned], laidTests := true, laidLooks := .later }
def AnswerEncodesUptoCardSaid : Prop := Claim7.holds Tryd.pinned (.plain (OpenSpec.upto answerEncodesSpec)) answerEncodesUptoCard

/-- THE SECOND FORM's CARD OF 'changeoverlaw08.CmdDecodes'. -/
def cmdDecodesUptoCard : Claim7 := { stood := { row := cmdDecodesUptoRow, standIns := [], harness := (true, "9564b4bb284b0ab408137469bc076b7dad5a33e5e0f9cce0e1777ec67d8db5fc"), looks := true }, kinds := [], alts := [], laidByText := true, laidKinds := [.data, .data, .data, .data, .pinned], laidTests := true, laidLooks := .later }
def CmdDecodesUptoCardSaid : Prop := Claim7.holds Tryd.pinned (.plain (OpenSpec.upto cmdDecodesSpec)) cmdDecodesUptoCard

/-- THE SECOND FORM's CARD OF 'changeoverlaw09.AnswerTexts'. -/
def answerTextsUptoCard : Claim7 := { stood := { row := answerTextsUptoRow, standIns := [], harness := (true, "9564b4bb284b0ab408137469bc076b7dad5a33e5e0f9cce0e1777ec67d8db5fc"), looks := true }, kinds := [], alts := [], laidByText := true, laidKinds := [.data, .data, .data, .data, .sentinel, .sentinel, .pinned], laidTests := true, laidLooks := .later }
def AnswerTextsUptoCardSaid : Prop := Claim7.holds Tryd.pinned (.plain (OpenSpec.upto answerTextsSpec)) answerTextsUptoCard
end Rows
end Go.Proofs.YtdgbpmbknlhgmaaDoor
