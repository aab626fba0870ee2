/-
  DERIVED. GIVEN WITH THE SEED: THE CARDS: each row of YtggimkndpmiimaaDoorRows.lean that lists a variable, with what it lists TIED to the program's text (the seventh form; the later family's looks); each row that meets fmt, with fmt's text TOLD by the authors' own Lean function (tested against real Go, not proved from fmt's source: count such statements apart). THE CARD IS WHAT COUNTS. Prove the row's statement (the work); the ties are given (YtggimkndpmiimaaDoorTie.lean); close each card by the builder's one call (the guide's Derived/Test/ToyasCard.lean, 'card_holds'). Laid BY PROGRAM, IN A SANDBOX (cutbox-door.mjs). By AI agents, Wed Nov 11 2026. No macro, syntax, notation, axiom, sorry.
-/
import Derived.Test.YtggimkndpmiimaaDoorRows
import GoSem.ClaimSeven
namespace Go.Proofs.YtggimkndpmiimaaDoor
namespace Rows

/-- THE TIED CARD OF 'changeoverlaw02.CrcSums'. -/
def crcSumsCard : Claim7 := { stood := { row := crcSumsRow, standIns := [], harness := (true, "064ad199e4f72ff90633eacaa25d88b2f34fc4d3e0c130cfe8a0b5c7d3911323"), looks := false }, kinds := [], alts := [], laidByText := true, laidKinds := [.data, .data, .data, .data], laidTests := true, laidLooks := .later }
def CrcSumsCardSaid : Prop := Claim7.holds Tryd.pinned (.plain (OpenSpec.ofChange crcSumsSpec)) crcSumsCard

/-- THE TIED CARD OF 'changeoverlaw02.CrcGoesOn'. -/
def crcGoesOnCard : Claim7 := { stood := { row := crcGoesOnRow, standIns := [], harness := (true, "064ad199e4f72ff90633eacaa25d88b2f34fc4d3e0c130cfe8a0b5c7d3911323"), looks := false }, kinds := [], alts := [], laidByText := true, laidKinds := [.data, .data, .data, .data], laidTests := true, laidLooks := .later }
def CrcGoesOnCardSaid : Prop := Claim7.holds Tryd.pinned (.plain (OpenSpec.ofChange crcGoesOnSpec)) crcGoesOnCard

/-- THE TIED CARD OF 'changeoverlaw02.CrcChanges'. -/
def crcChangesCard : Claim7 := { stood := { row := crcChangesRow, standIns := [], harness := (true, "064ad199e4f72ff90633eacaa25d88b2f34fc4d3e0c130cfe8a0b5c7d3911323"), looks := false }, kinds := [], alts := [], laidByText := true, laidKinds := [.data, .data, .data, .data], laidTests := true, laidLooks := .later }
def CrcChangesCardSaid : Prop := Claim7.holds Tryd.pinned (.plain (OpenSpec.ofChange crcChangesSpec)) crcChangesCard

/-- THE TIED CARD OF 'changeoverlaw10.BallotLess'. -/
def ballotLessCard : Claim7 := { stood := { row := ballotLessRow, standIns := [], harness := (true, "064ad199e4f72ff90633eacaa25d88b2f34fc4d3e0c130cfe8a0b5c7d3911323"), looks := false }, kinds := [], alts := [], laidByText := true, laidKinds := [.data, .data, .data], laidTests := true, laidLooks := .later }
def BallotLessCardSaid : Prop := Claim7.holds Tryd.pinned (.plain (OpenSpec.ofChange ballotLessSpec)) ballotLessCard

/-- THE TIED CARD OF 'changeoverlaw10.BallotNext'. -/
def ballotNextCard : Claim7 := { stood := { row := ballotNextRow, standIns := [], harness := (true, "064ad199e4f72ff90633eacaa25d88b2f34fc4d3e0c130cfe8a0b5c7d3911323"), looks := false }, kinds := [], alts := [], laidByText := true, laidKinds := [.data, .data, .data], laidTests := true, laidLooks := .later }
def BallotNextCardSaid : Prop := Claim7.holds Tryd.pinned (.plain (OpenSpec.ofChange ballotNextSpec)) ballotNextCard

/-- THE TIED CARD OF 'changeoverlaw10.BallotMax'. -/
def ballotMaxCard : Claim7 := { stood := { row := ballotMaxRow, standIns := [], harness := (true, "064ad199e4f72ff90633eacaa25d88b2f34fc4d3e0c130cfe8a0b5c7d3911323"), looks := false }, kinds := [], alts := [], laidByText := true, laidKinds := [.data, .data, .data], laidTests := true, laidLooks := .later }
def BallotMaxCardSaid : Prop := Claim7.holds Tryd.pinned (.plain (OpenSpec.ofChange ballotMaxSpec)) ballotMaxCard

/-- THE SECOND FORM's CARD OF 'changeoverlaw02.CrcSums'. -/
def crcSumsUptoCard : Claim7 := { stood := { row := crcSumsUptoRow, standIns := [], harness := (true, "064ad199e4f72ff90633eacaa25d88b2f34fc4d3e0c130cfe8a0b5c7d3911323"), looks := false }, kinds := [], alts := [], laidByText := true, laidKinds := [.data, .data, .data, .data], laidTests := true, laidLooks := .later }
def CrcSumsUptoCardSaid : Prop := Claim7.holds Tryd.pinned (.plain (OpenSpec.upto crcSumsSpec)) crcSumsUptoCard

/-- THE SECOND FORM's CARD OF 'changeoverlaw02.CrcGoesOn'. -/
def crcGoesOnUptoCard : Claim7 := { stood := { row := crcGoesOnUptoRow, standIns := [], harness := (true, "064ad199e4f72ff90633eacaa25d88b2f34fc4d3e0c130cfe8a0b5c7d3911323"), looks := false }, kinds := [], alts := [], laidByText := true, laidKinds := [.data, .data, .data, .data], laidTests := true, laidLooks := .later }
def CrcGoesOnUptoCardSaid : Prop := Claim7.holds Tryd.pinned (.plain (OpenSpec.upto crcGoesOnSpec)) crcGoesOnUptoCard

/-- THE SECOND FORM's CARD OF 'changeoverlaw02.CrcChanges'. -/
def crcChangesUptoCard : Claim7 := { stood := { row := crcChangesUptoRow, standIns := [], harness := (true, "064ad199e4f72ff90633eacaa25d88b2f34fc4d3e0c130cfe8a0b5c7d3911323"), looks := false }, kinds := [], alts := [], laidByText := true, laidKinds := [.data, .data, .data, .data], laidTests := true, laidLooks := .later }
def CrcChangesUptoCardSaid : Prop := Claim7.holds Tryd.pinned (.plain (OpenSpec.upto crcChangesSpec)) crcChangesUptoCard

/-- THE SECOND FORM's CARD OF 'changeoverlaw10.BallotLess'. -/
def ballotLessUptoCard : Claim7 := { stood := { row := ballotLessUptoRow, standIns := [], harness := (true, "064ad199e4f72ff90633eacaa25d88b2f34fc4d3e0c130cfe8a0b5c7d3911323"), looks := false }, kinds := [], alts := [], laidByText := true, laidKinds := [.data, .data, .data], laidTests := true, laidLooks := .later }
def BallotLessUptoCardSaid : Prop := Claim7.holds Tryd.pinned (.plain (OpenSpec.upto ballotLessSpec)) ballotLessUptoCard

/-- THE SECOND FORM's CARD OF 'changeoverlaw10.BallotNext'. -/
def ballotNextUptoCard : Claim7 := { stood := { row := ballotNextUptoRow, standIns := [], harness := (true, "064ad199e4f72ff90633eacaa25d88b2f34fc4d3e0c130cfe8a0b5c7d3911323"), looks := false }, kinds := [], alts := [], laidByText := true, laidKinds := [.data, .data, .data], laidTests := true, laidLooks := .later }
def BallotNextUptoCardSaid : Prop := Claim7.holds Tryd.pinned (.plain (OpenSpec.upto ballotNextSpec)) ballotNextUptoCard

/-- THE SECOND FORM's CARD OF 'changeoverlaw10.BallotMax'. -/
def ballotMaxUptoCard : Claim7 := { stood := { row := ballotMaxUptoRow, standIns := [], harness := (true, "064ad199e4f72ff90633eacaa25d88b2f34fc4d3e0c130cfe8a0b5c7d3911323"), looks := false }, kinds := [], alts := [], laidByText := true, laidKinds := [.data, .data, .data], laidTests := true, laidLooks := .later }
def BallotMaxUptoCardSaid : Prop := Claim7.holds Tryd.pinned (.plain (OpenSpec.upto ballotMaxSpec)) ballotMaxUptoCard
end Rows
end Go.Proofs.YtggimkndpmiimaaDoor
