/-
  DERIVED. GIVEN WITH THE SEED: THE CARDS: each row of YtdgbpmbknlhgmaaGreatDoorRows.lean that lists a variable, with what it lists TIED to the program's text (the seventh form; the later family's looks); each row that meets fmt, with fmt's text TOLD by the authors' own Lean function (tested against real Go, not proved from fmt's source: count such statements apart). THE CARD IS WHAT COUNTS. Prove the row's statement (the work); the ties are given (YtdgbpmbknlhgmaaGreatDoorTie.lean); close each card by the builder's one call (the guide's Derived/Test/ToyasCard.lean, 'card_holds'). Laid BY PROGRAM, IN A SANDBOX (cutbox-door.mjs). By AI agents, Wed Nov 11 2026. No macro, syntax, notation, axiom, sorry.
-/
import Derived.Test.YtdgbpmbknlhgmaaGreatDoorRows
import GoSem.ClaimSeven
namespace Go.Proofs.YtdgbpmbknlhgmaaGreatDoor
namespace Rows

/-- THE TIED CARD OF 'changeoverlaw08.CmdEncodes'. -/
def cmdEncodesCard : Claim7 := { stood := { row := cmdEncodesRow, standIns := [], harness := (true, "2144a251335f2d80bc4d904df6d7785783f2981fc798cb835f61af4ba250f146"), looks := true }, kinds := [], alts := [], laidByText := true, laidKinds := [.data, .data, .data, .data, .pinned], laidTests := true, laidLooks := .later }
def CmdEncodesCardSaid : Prop := Claim7.holds Tryz.pinned (.plain (OpenSpec.ofChange cmdEncodesSpec)) cmdEncodesCard

/-- THE TIED CARD OF 'changeoverlaw08.CmdRefuses'. -/
def cmdRefusesCard : Claim7 := { stood := { row := cmdRefusesRow, standIns := [], harness := (true, "2144a251335f2d80bc4d904df6d7785783f2981fc798cb835f61af4ba250f146"), looks := true }, kinds := [], alts := [], laidByText := true, laidKinds := [.data, .data, .data, .data, .pinned], laidTests := true, laidLooks := .later }
def CmdRefusesCardSaid : Prop := Claim7.holds Tryz.pinned (.plain (OpenSpec.ofChange cmdRefusesSpec)) cmdRefusesCard

/-- THE TIED CARD OF 'changeoverlaw08.CmdTexts'. -/
def cmdTextsCard : Claim7 := { stood := { row := cmdTextsRow, standIns := [], harness := (true, "2144a251335f2d80bc4d904df6d7785783f2981fc798cb835f61af4ba250f146"), looks := true }, kinds := [], alts := [], laidByText := true, laidKinds := [.data, .data, .data, .data, .sentinel, .sentinel, .pinned], laidTests := true, laidLooks := .later }
def CmdTextsCardSaid : Prop := Claim7.holds Tryz.pinned (.plain (OpenSpec.ofChange cmdTextsSpec)) cmdTextsCard

/-- THE TIED CARD OF 'changeoverlaw42.ScriptLines'. -/
def scriptLinesCard : Claim7 := { stood := { row := scriptLinesRow, standIns := [], harness := (true, "2144a251335f2d80bc4d904df6d7785783f2981fc798cb835f61af4ba250f146"), looks := true }, kinds := [], alts := [], laidByText := true, laidKinds := [.data, .data, .data, .data, .sentinel, .sentinel, .pinned], laidTests := true, laidLooks := .later }
def ScriptLinesCardSaid : Prop := Claim7.holds Tryz.pinned (.plain (OpenSpec.ofChange scriptLinesSpec)) scriptLinesCard

/-- THE TIED CARD OF 'changeoverlaw42.ScriptReads'. -/
def scriptReadsCard : Claim7 := { stood := { row := scriptReadsRow, standIns := [], harness := (true, "2144a251335f2d80bc4d904df6d7785783f2981fc798cb835f61af4ba250f146"), looks := true }, kinds := [], alts := [], laidByText := true, laidKinds := [.data, .data, .data, .data, .sentinel, .sentinel, .pinned], laidTests := true, laidLooks := .later }
def ScriptReadsCardSaid : Prop := Claim7.holds Tryz.pinned (.plain (OpenSpec.ofChange scriptReadsSpec)) scriptReadsCard

/-- THE TIED CARD OF 'changeoverlaw42.ScriptTexts'. -/
def scriptTextsCard : Claim7 := { stood := { row := scriptTextsRow, standIns := [], harness := (true, "2144a251335f2d80bc4d904df6d7785783f2981fc798cb835f61af4ba250f146"), looks := true }, kinds := [], alts := [], laidByText := true, laidKinds := [.data, .data, .data, .data, .sentinel, .sentinel, .pinned], laidTests := true, laidLooks := .later }
def ScriptTextsCardSaid : Prop := Claim7.holds Tryz.pinned (.plain (OpenSpec.ofChange scriptTextsSpec)) scriptTextsCard

/-- THE SECOND FORM's CARD OF 'changeoverlaw08.CmdEncodes'. -/
def cmdEncodesUptoCard : Claim7 := { stood := { row := cmdEncodesUptoRow, standIns := [], harness := (true, "2144a251335f2d80bc4d904df6d7785783f2981fc798cb835f61af4ba250f146"), looks := true }, kinds := [], alts := [], laidByText := true, laidKinds := [.data, .data, .data, .data, .pinned], laidTests := true, laidLooks := .later }
def CmdEncodesUptoCardSaid : Prop := Claim7.holds Tryz.pinned (.plain (OpenSpec.upto cmdEncodesSpec)) cmdEncodesUptoCard

/-- THE SECOND FORM's CARD OF 'changeoverlaw08.CmdRefuses'. -/
def cmdRefusesUptoCard : Claim7 := { stood := { row := cmdRefusesUptoRow, standIns := [], harness := (true, "2144a251335f2d80bc4d904df6d7785783f2981fc798cb835f61af4ba250f146"), looks := true }, kinds := [], alts := [], laidByText := true, laidKinds := [.data, .data, .data, .data, .pinned], laidTests := true, laidLooks := .later }
def CmdRefusesUptoCardSaid : Prop := Claim7.holds Tryz.pinned (.plain (OpenSpec.upto cmdRefusesSpec)) cmdRefusesUptoCard

/-- THE SECOND FORM's CARD OF 'changeoverlaw08.CmdTexts'. -/
def cmdTextsUptoCard : Claim7 := { stood := { row := cmdTextsUptoRow, standIns := [], harness := (true, "2144a251335f2d80bc4d904df6d7785783f2981fc798cb835f61af4ba250f146"), looks := true }, kinds := [], alts := [], laidByText := true, laidKinds := [.data, .data, .data, .data, .sentinel, .sentinel, .pinned], laidTests := true, laidLooks := .later }
def CmdTextsUptoCardSaid : Prop := Claim7.holds Tryz.pinned (.plain (OpenSpec.upto cmdTextsSpec)) cmdTextsUptoCard

/-- THE SECOND FORM's CARD OF 'changeoverlaw42.ScriptLines'. -/
def scriptLinesUptoCard : Claim7 := { stood := { row := scriptLinesUptoRow, standIns := [], harness := (true, "2144a251335f2d80bc4d904df6d7785783f2981fc798cb835f61af4ba250f146"), looks := true }, kinds := [], alts := [], laidByText := true, laidKinds := [.data, .data, .data, .data, .sentinel, .sentinel, .pinned], laidTests := true, laidLooks := .later }
def ScriptLinesUptoCardSaid : Prop := Claim7.holds Tryz.pinned (.plain (OpenSpec.upto scriptLinesSpec)) scriptLinesUptoCard

/-- THE SECOND FORM's CARD OF 'changeoverlaw42.ScriptReads'. -/
def scriptReadsUptoCard : Claim7 := { stood := { row := scriptReadsUptoRow, standIns := [], harness := (true, "2144a251335f2d80bc4d904df6d7785783f2981fc798cb835f61af4ba250f146"), looks := true }, kinds := [], alts := [], laidByText := true, laidKinds := [.data, .data, .data, .data, .sentinel, .sentinel, .pinned], laidTests := true, laidLooks := .later }
def ScriptReadsUptoCardSaid : Prop := Claim7.holds Tryz.pinned (.plain (OpenSpec.upto scriptReadsSpec)) scriptReadsUptoCard

/-- THE SECOND FORM's CARD OF 'changeoverlaw42.ScriptTexts'. -/
def scriptTextsUptoCard : Claim7 := { stood := { row := scriptTextsUptoRow, standIns := [], harness := (true, "2144a251335f2d80bc4d904df6d7785783f2981fc798cb835f61af4ba250f146"), looks := true }, kinds := [], alts := [], laidByText := true, laidKinds := [.data, .data, .data, .data, .sentinel, .sentinel, .pinned], laidTests := true, laidLooks := .later }
def ScriptTextsUptoCardSaid : Prop := Claim7.holds Tryz.pinned (.plain (OpenSpec.upto scriptTextsSpec)) scriptTextsUptoCard
end Rows
end Go.Proofs.YtdgbpmbknlhgmaaGreatDoor
