/-
  DERIVED. GIVEN WITH THE SEED: THE CARDS: each row of YtkpmmgeffbhngaaGreatDoorRows.lean that lists a variable, with what it lists TIED to the program's text (the seventh form; the later family's looks); each row that meets fmt, with fmt's text TOLD by the authors' own Lean function (tested against real Go, not proved from fmt's source: count such statements apart). THE CARD IS WHAT COUNTS. Prove the row's statement (the work); the ties are given (YtkpmmgeffbhngaaGreatDoorTie.lean); close each card by the builder's one call (the guide's Derived/Test/ToyasCard.lean, 'card_holds'). Laid BY PROGRAM, IN A SANDBOX (cutbox-door.mjs). By AI agents, Wed Nov 11 2026. No macro, syntax, notation, axiom, sorry.
-/
import Derived.Test.YtkpmmgeffbhngaaGreatDoorRows
import GoSem.ClaimSeven
namespace Go.Proofs.YtkpmmgeffbhngaaGreatDoor
namespace Rows

/-- THE TIED CARD OF 'mandrellaw12.ProtocolMarks'. -/
def protocolMarksCard : Claim7 := { stood := { row := protocolMarksRow, standIns := [], harness := (true, "056ceee57fb0345663cf018f0cf66ba5b95e362946dcabdfc5afb17e57de19a5"), looks := true }, kinds := [], alts := [], laidByText := true, laidKinds := [.data, .data, .data, .data, .sentinel, .sentinel, .pinned], laidTests := true, laidLooks := .later }
def ProtocolMarksCardSaid : Prop := Claim7.holds Tryz.pinned (.plain (OpenSpec.ofChange protocolMarksSpec)) protocolMarksCard

/-- THE TIED CARD OF 'mandrellaw12.ProtocolGrooves'. -/
def protocolGroovesCard : Claim7 := { stood := { row := protocolGroovesRow, standIns := [], harness := (true, "056ceee57fb0345663cf018f0cf66ba5b95e362946dcabdfc5afb17e57de19a5"), looks := true }, kinds := [], alts := [], laidByText := true, laidKinds := [.data, .data, .data, .data, .sentinel, .sentinel, .pinned], laidTests := true, laidLooks := .later }
def ProtocolGroovesCardSaid : Prop := Claim7.holds Tryz.pinned (.plain (OpenSpec.ofChange protocolGroovesSpec)) protocolGroovesCard

/-- THE TIED CARD OF 'mandrellaw12.ProtocolLines'. -/
def protocolLinesCard : Claim7 := { stood := { row := protocolLinesRow, standIns := [], harness := (true, "056ceee57fb0345663cf018f0cf66ba5b95e362946dcabdfc5afb17e57de19a5"), looks := true }, kinds := [], alts := [], laidByText := true, laidKinds := [.data, .data, .data, .data, .sentinel, .sentinel, .pinned], laidTests := true, laidLooks := .later }
def ProtocolLinesCardSaid : Prop := Claim7.holds Tryz.pinned (.plain (OpenSpec.ofChange protocolLinesSpec)) protocolLinesCard

/-- THE TIED CARD OF 'mandrellaw12.ProtocolRuns'. -/
def protocolRunsCard : Claim7 := { stood := { row := protocolRunsRow, standIns := [], harness := (true, "056ceee57fb0345663cf018f0cf66ba5b95e362946dcabdfc5afb17e57de19a5"), looks := true }, kinds := [], alts := [], laidByText := true, laidKinds := [.data, .data, .data, .data, .sentinel, .sentinel, .pinned], laidTests := true, laidLooks := .later }
def ProtocolRunsCardSaid : Prop := Claim7.holds Tryz.pinned (.plain (OpenSpec.ofChange protocolRunsSpec)) protocolRunsCard

/-- THE TIED CARD OF 'mandrellaw12.ProtocolLists'. -/
def protocolListsCard : Claim7 := { stood := { row := protocolListsRow, standIns := [], harness := (true, "056ceee57fb0345663cf018f0cf66ba5b95e362946dcabdfc5afb17e57de19a5"), looks := true }, kinds := [], alts := [], laidByText := true, laidKinds := [.data, .data, .data, .data, .sentinel, .sentinel, .pinned], laidTests := true, laidLooks := .later }
def ProtocolListsCardSaid : Prop := Claim7.holds Tryz.pinned (.plain (OpenSpec.ofChange protocolListsSpec)) protocolListsCard

/-- THE TIED CARD OF 'mandrellaw12.ProtocolReplayed'. -/
def protocolReplayedCard : Claim7 := { stood := { row := protocolReplayedRow, standIns := [], harness := (true, "056ceee57fb0345663cf018f0cf66ba5b95e362946dcabdfc5afb17e57de19a5"), looks := true }, kinds := [], alts := [], laidByText := true, laidKinds := [.data, .data, .data, .data, .sentinel, .sentinel, .pinned], laidTests := true, laidLooks := .later }
def ProtocolReplayedCardSaid : Prop := Claim7.holds Tryz.pinned (.plain (OpenSpec.ofChange protocolReplayedSpec)) protocolReplayedCard

/-- THE TIED CARD OF 'mandrellaw12.ProtocolStruck'. -/
def protocolStruckCard : Claim7 := { stood := { row := protocolStruckRow, standIns := [], harness := (true, "056ceee57fb0345663cf018f0cf66ba5b95e362946dcabdfc5afb17e57de19a5"), looks := true }, kinds := [], alts := [], laidByText := true, laidKinds := [.data, .data, .data, .data, .sentinel, .sentinel, .pinned], laidTests := true, laidLooks := .later }
def ProtocolStruckCardSaid : Prop := Claim7.holds Tryz.pinned (.plain (OpenSpec.ofChange protocolStruckSpec)) protocolStruckCard

/-- THE TIED CARD OF 'mandrellaw12.ProtocolMarked'. -/
def protocolMarkedCard : Claim7 := { stood := { row := protocolMarkedRow, standIns := [], harness := (true, "056ceee57fb0345663cf018f0cf66ba5b95e362946dcabdfc5afb17e57de19a5"), looks := true }, kinds := [], alts := [], laidByText := true, laidKinds := [.data, .data, .data, .data, .sentinel, .sentinel, .pinned], laidTests := true, laidLooks := .later }
def ProtocolMarkedCardSaid : Prop := Claim7.holds Tryz.pinned (.plain (OpenSpec.ofChange protocolMarkedSpec)) protocolMarkedCard

/-- THE TIED CARD OF 'mandrellaw12.ProtocolWritten'. -/
def protocolWrittenCard : Claim7 := { stood := { row := protocolWrittenRow, standIns := [], harness := (true, "056ceee57fb0345663cf018f0cf66ba5b95e362946dcabdfc5afb17e57de19a5"), looks := true }, kinds := [], alts := [], laidByText := true, laidKinds := [.data, .data, .data, .data, .sentinel, .sentinel, .pinned], laidTests := true, laidLooks := .later }
def ProtocolWrittenCardSaid : Prop := Claim7.holds Tryz.pinned (.plain (OpenSpec.ofChange protocolWrittenSpec)) protocolWrittenCard

/-- THE TIED CARD OF 'mandrellaw12.ProtocolKept'. -/
def protocolKeptCard : Claim7 := { stood := { row := protocolKeptRow, standIns := [], harness := (true, "056ceee57fb0345663cf018f0cf66ba5b95e362946dcabdfc5afb17e57de19a5"), looks := true }, kinds := [], alts := [], laidByText := true, laidKinds := [.data, .data, .data, .data, .sentinel, .sentinel, .pinned], laidTests := true, laidLooks := .later }
def ProtocolKeptCardSaid : Prop := Claim7.holds Tryz.pinned (.plain (OpenSpec.ofChange protocolKeptSpec)) protocolKeptCard

/-- THE TIED CARD OF 'mandrellaw12.ProtocolPrefix'. -/
def protocolPrefixCard : Claim7 := { stood := { row := protocolPrefixRow, standIns := [], harness := (true, "056ceee57fb0345663cf018f0cf66ba5b95e362946dcabdfc5afb17e57de19a5"), looks := true }, kinds := [], alts := [], laidByText := true, laidKinds := [.data, .data, .data, .data, .sentinel, .sentinel, .pinned], laidTests := true, laidLooks := .later }
def ProtocolPrefixCardSaid : Prop := Claim7.holds Tryz.pinned (.plain (OpenSpec.ofChange protocolPrefixSpec)) protocolPrefixCard

/-- THE TIED CARD OF 'mandrellaw12.ProtocolKnown'. -/
def protocolKnownCard : Claim7 := { stood := { row := protocolKnownRow, standIns := [], harness := (true, "056ceee57fb0345663cf018f0cf66ba5b95e362946dcabdfc5afb17e57de19a5"), looks := true }, kinds := [], alts := [], laidByText := true, laidKinds := [.data, .data, .data, .data, .sentinel, .sentinel, .pinned], laidTests := true, laidLooks := .later }
def ProtocolKnownCardSaid : Prop := Claim7.holds Tryz.pinned (.plain (OpenSpec.ofChange protocolKnownSpec)) protocolKnownCard

/-- THE SECOND FORM's CARD OF 'mandrellaw12.ProtocolMarks'. -/
def protocolMarksUptoCard : Claim7 := { stood := { row := protocolMarksUptoRow, standIns := [], harness := (true, "056ceee57fb0345663cf018f0cf66ba5b95e362946dcabdfc5afb17e57de19a5"), looks := true }, kinds := [], alts := [], laidByText := true, laidKinds := [.data, .data, .data, .data, .sentinel, .sentinel, .pinned], laidTests := true, laidLooks := .later }
def ProtocolMarksUptoCardSaid : Prop := Claim7.holds Tryz.pinned (.plain (OpenSpec.upto protocolMarksSpec)) protocolMarksUptoCard

/-- THE SECOND FORM's CARD OF 'mandrellaw12.ProtocolGrooves'. -/
def protocolGroovesUptoCard : Claim7 := { stood := { row := protocolGroovesUptoRow, standIns := [], harness := (true, "056ceee57fb0345663cf018f0cf66ba5b95e362946dcabdfc5afb17e57de19a5"), looks := true }, kinds := [], alts := [], laidByText := true, laidKinds := [.data, .data, .data, .data, .sentinel, .sentinel, .pinned], laidTests := true, laidLooks := .later }
def ProtocolGroovesUptoCardSaid : Prop := Claim7.holds Tryz.pinned (.plain (OpenSpec.upto protocolGroovesSpec)) protocolGroovesUptoCard

/-- THE SECOND FORM's CARD OF 'mandrellaw12.ProtocolLines'. -/
def protocolLinesUptoCard : Claim7 := { stood := { row := protocolLinesUptoRow, standIns := [], harness := (true, "056ceee57fb0345663cf018f0cf66ba5b95e362946dcabdfc5afb17e57de19a5"), looks := true }, kinds := [], alts := [], laidByText := true, laidKinds := [.data, .data, .data, .data, .sentinel, .sentinel, .pinned], laidTests := true, laidLooks := .later }
def ProtocolLinesUptoCardSaid : Prop := Claim7.holds Tryz.pinned (.plain (OpenSpec.upto protocolLinesSpec)) protocolLinesUptoCard

/-- THE SECOND FORM's CARD OF 'mandrellaw12.ProtocolRuns'. -/
def protocolRunsUptoCard : Claim7 := { stood := { row := protocolRunsUptoRow, standIns := [], harness := (true, "056ceee57fb0345663cf018f0cf66ba5b95e362946dcabdfc5afb17e57de19a5"), looks := true }, kinds := [], alts := [], laidByText := true, laidKinds := [.data, .data, .data, .data, .sentinel, .sentinel, .pinned], laidTests := true, laidLooks := .later }
def ProtocolRunsUptoCardSaid : Prop := Claim7.holds Tryz.pinned (.plain (OpenSpec.upto protocolRunsSpec)) protocolRunsUptoCard

/-- THE SECOND FORM's CARD OF 'mandrellaw12.ProtocolLists'. -/
def protocolListsUptoCard : Claim7 := { stood := { row := protocolListsUptoRow, standIns := [], harness := (true, "056ceee57fb0345663cf018f0cf66ba5b95e362946dcabdfc5afb17e57de19a5"), looks := true }, kinds := [], alts := [], laidByText := true, laidKinds := [.data, .data, .data, .data, .sentinel, .sentinel, .pinned], laidTests := true, laidLooks := .later }
def ProtocolListsUptoCardSaid : Prop := Claim7.holds Tryz.pinned (.plain (OpenSpec.upto protocolListsSpec)) protocolListsUptoCard

/-- THE SECOND FORM's CARD OF 'mandrellaw12.ProtocolReplayed'. -/
def protocolReplayedUptoCard : Claim7 := { stood := { row := protocolReplayedUptoRow, standIns := [], harness := (true, "056ceee57fb0345663cf018f0cf66ba5b95e362946dcabdfc5afb17e57de19a5"), looks := true }, kinds := [], alts := [], laidByText := true, laidKinds := [.data, .data, .data, .data, .sentinel, .sentinel, .pinned], laidTests := true, laidLooks := .later }
def ProtocolReplayedUptoCardSaid : Prop := Claim7.holds Tryz.pinned (.plain (OpenSpec.upto protocolReplayedSpec)) protocolReplayedUptoCard

/-- THE SECOND FORM's CARD OF 'mandrellaw12.ProtocolStruck'. -/
def protocolStruckUptoCard : Claim7 := { stood := { row := protocolStruckUptoRow, standIns := [], harness := (true, "056ceee57fb0345663cf018f0cf66ba5b95e362946dcabdfc5afb17e57de19a5"), looks := true }, kinds := [], alts := [], laidByText := true, laidKinds := [.data, .data, .data, .data, .sentinel, .sentinel, .pinned], laidTests := true, laidLooks := .later }
def ProtocolStruckUptoCardSaid : Prop := Claim7.holds Tryz.pinned (.plain (OpenSpec.upto protocolStruckSpec)) protocolStruckUptoCard

/-- THE SECOND FORM's CARD OF 'mandrellaw12.ProtocolMarked'. -/
def protocolMarkedUptoCard : Claim7 := { stood := { row := protocolMarkedUptoRow, standIns := [], harness := (true, "056ceee57fb0345663cf018f0cf66ba5b95e362946dcabdfc5afb17e57de19a5"), looks := true }, kinds := [], alts := [], laidByText := true, laidKinds := [.data, .data, .data, .data, .sentinel, .sentinel, .pinned], laidTests := true, laidLooks := .later }
def ProtocolMarkedUptoCardSaid : Prop := Claim7.holds Tryz.pinned (.plain (OpenSpec.upto protocolMarkedSpec)) protocolMarkedUptoCard

/-- THE SECOND FORM's CARD OF 'mandrellaw12.ProtocolWritten'. -/
def protocolWrittenUptoCard : Claim7 := { stood := { row := protocolWrittenUptoRow, standIns := [], harness := (true, "056ceee57fb0345663cf018f0cf66ba5b95e362946dcabdfc5afb17e57de19a5"), looks := true }, kinds := [], alts := [], laidByText := true, laidKinds := [.data, .data, .data, .data, .sentinel, .sentinel, .pinned], laidTests := true, laidLooks := .later }
def ProtocolWrittenUptoCardSaid : Prop := Claim7.holds Tryz.pinned (.plain (OpenSpec.upto protocolWrittenSpec)) protocolWrittenUptoCard

/-- THE SECOND FORM's CARD OF 'mandrellaw12.ProtocolKept'. -/
def protocolKeptUptoCard : Claim7 := { stood := { row := protocolKeptUptoRow, standIns := [], harness := (true, "056ceee57fb0345663cf018f0cf66ba5b95e362946dcabdfc5afb17e57de19a5"), looks := true }, kinds := [], alts := [], laidByText := true, laidKinds := [.data, .data, .data, .data, .sentinel, .sentinel, .pinned], laidTests := true, laidLooks := .later }
def ProtocolKeptUptoCardSaid : Prop := Claim7.holds Tryz.pinned (.plain (OpenSpec.upto protocolKeptSpec)) protocolKeptUptoCard

/-- THE SECOND FORM's CARD OF 'mandrellaw12.ProtocolPrefix'. -/
def protocolPrefixUptoCard : Claim7 := { stood := { row := protocolPrefixUptoRow, standIns := [], harness := (true, "056ceee57fb0345663cf018f0cf66ba5b95e362946dcabdfc5afb17e57de19a5"), looks := true }, kinds := [], alts := [], laidByText := true, laidKinds := [.data, .data, .data, .data, .sentinel, .sentinel, .pinned], laidTests := true, laidLooks := .later }
def ProtocolPrefixUptoCardSaid : Prop := Claim7.holds Tryz.pinned (.plain (OpenSpec.upto protocolPrefixSpec)) protocolPrefixUptoCard

/-- THE SECOND FORM's CARD OF 'mandrellaw12.ProtocolKnown'. -/
def protocolKnownUptoCard : Claim7 := { stood := { row := protocolKnownUptoRow, standIns := [], harness := (true, "056ceee57fb0345663cf018f0cf66ba5b95e362946dcabdfc5afb17e57de19a5"), looks := true }, kinds := [], alts := [], laidByText := true, laidKinds := [.data, .data, .data, .data, .sentinel, .sentinel, .pinned], laidTests := true, laidLooks := .later }
def ProtocolKnownUptoCardSaid : Prop := Claim7.holds Tryz.pinned (.plain (OpenSpec.upto protocolKnownSpec)) protocolKnownUptoCard
end Rows
end Go.Proofs.YtkpmmgeffbhngaaGreatDoor
