/-
  DERIVED. GIVEN WITH THE SEED: THE CARDS: each row of YtggcooplhodocaaDoorRows.lean that lists a variable, with what it lists TIED to the program's text (the seventh form; the later family's looks); each row that meets fmt, with fmt's text TOLD by the authors' own Lean function (tested against real Go, not proved from fmt's source: count such statements apart). THE CARD IS WHAT COUNTS. Prove the row's statement (the work); the ties are given (YtggcooplhodocaaDoorTie.lean); close each card by the builder's one call (the guide's Derived/Test/ToyasCard.lean, 'card_holds'). Laid BY PROGRAM, IN A SANDBOX (cutbox-door.mjs). By AI agents, Wed Nov 11 2026. No macro, syntax, notation, axiom, sorry.
-/
import Derived.Test.YtggcooplhodocaaDoorRows
import GoSem.ClaimSeven
namespace Go.Proofs.YtggcooplhodocaaDoor
namespace Rows

/-- THE TIED CARD OF 'mandrellaw08.FamilyBooks'. -/
def familyBooksCard : Claim7 := { stood := { row := familyBooksRow, standIns := [], harness := (true, "1de586aba68f76f0b7d1a6946dc83601c43aa7ef50c89ceed4f957acf21bdcf0"), looks := false }, kinds := [], alts := [], laidByText := true, laidKinds := [.data, .data], laidTests := true, laidLooks := .later }
def FamilyBooksCardSaid : Prop := Claim7.holds Tryd.pinned (.plain (OpenSpec.ofChange familyBooksSpec)) familyBooksCard

/-- THE TIED CARD OF 'mandrellaw08.FamilyPrices'. -/
def familyPricesCard : Claim7 := { stood := { row := familyPricesRow, standIns := [], harness := (true, "1de586aba68f76f0b7d1a6946dc83601c43aa7ef50c89ceed4f957acf21bdcf0"), looks := false }, kinds := [], alts := [], laidByText := true, laidKinds := [.data, .data], laidTests := true, laidLooks := .later }
def FamilyPricesCardSaid : Prop := Claim7.holds Tryd.pinned (.plain (OpenSpec.ofChange familyPricesSpec)) familyPricesCard

/-- THE TIED CARD OF 'mandrellaw08.FamilyProved'. -/
def familyProvedCard : Claim7 := { stood := { row := familyProvedRow, standIns := [], harness := (true, "1de586aba68f76f0b7d1a6946dc83601c43aa7ef50c89ceed4f957acf21bdcf0"), looks := false }, kinds := [], alts := [], laidByText := true, laidKinds := [.data, .data], laidTests := true, laidLooks := .later }
def FamilyProvedCardSaid : Prop := Claim7.holds Tryd.pinned (.plain (OpenSpec.ofChange familyProvedSpec)) familyProvedCard

/-- THE TIED CARD OF 'mandrellaw08.FamilyLost'. -/
def familyLostCard : Claim7 := { stood := { row := familyLostRow, standIns := [], harness := (true, "1de586aba68f76f0b7d1a6946dc83601c43aa7ef50c89ceed4f957acf21bdcf0"), looks := false }, kinds := [], alts := [], laidByText := true, laidKinds := [.data, .data], laidTests := true, laidLooks := .later }
def FamilyLostCardSaid : Prop := Claim7.holds Tryd.pinned (.plain (OpenSpec.ofChange familyLostSpec)) familyLostCard

/-- THE TIED CARD OF 'mandrellaw08.FamilyMore'. -/
def familyMoreCard : Claim7 := { stood := { row := familyMoreRow, standIns := [], harness := (true, "1de586aba68f76f0b7d1a6946dc83601c43aa7ef50c89ceed4f957acf21bdcf0"), looks := false }, kinds := [], alts := [], laidByText := true, laidKinds := [.data, .data], laidTests := true, laidLooks := .later }
def FamilyMoreCardSaid : Prop := Claim7.holds Tryd.pinned (.plain (OpenSpec.ofChange familyMoreSpec)) familyMoreCard

/-- THE TIED CARD OF 'mandrellaw08.FamilyGraded'. -/
def familyGradedCard : Claim7 := { stood := { row := familyGradedRow, standIns := [], harness := (true, "1de586aba68f76f0b7d1a6946dc83601c43aa7ef50c89ceed4f957acf21bdcf0"), looks := false }, kinds := [], alts := [], laidByText := true, laidKinds := [.data, .data], laidTests := true, laidLooks := .later }
def FamilyGradedCardSaid : Prop := Claim7.holds Tryd.pinned (.plain (OpenSpec.ofChange familyGradedSpec)) familyGradedCard

/-- THE TIED CARD OF 'mandrellaw08.FamilyLargest'. -/
def familyLargestCard : Claim7 := { stood := { row := familyLargestRow, standIns := [], harness := (true, "1de586aba68f76f0b7d1a6946dc83601c43aa7ef50c89ceed4f957acf21bdcf0"), looks := false }, kinds := [], alts := [], laidByText := true, laidKinds := [.data, .data], laidTests := true, laidLooks := .later }
def FamilyLargestCardSaid : Prop := Claim7.holds Tryd.pinned (.plain (OpenSpec.ofChange familyLargestSpec)) familyLargestCard

/-- THE TIED CARD OF 'mandrellaw08.FamilyNamed'. -/
def familyNamedCard : Claim7 := { stood := { row := familyNamedRow, standIns := [], harness := (true, "1de586aba68f76f0b7d1a6946dc83601c43aa7ef50c89ceed4f957acf21bdcf0"), looks := false }, kinds := [], alts := [], laidByText := true, laidKinds := [.data, .data], laidTests := true, laidLooks := .later }
def FamilyNamedCardSaid : Prop := Claim7.holds Tryd.pinned (.plain (OpenSpec.ofChange familyNamedSpec)) familyNamedCard

/-- THE TIED CARD OF 'mandrellaw08.FamilyKnown'. -/
def familyKnownCard : Claim7 := { stood := { row := familyKnownRow, standIns := [], harness := (true, "1de586aba68f76f0b7d1a6946dc83601c43aa7ef50c89ceed4f957acf21bdcf0"), looks := false }, kinds := [], alts := [], laidByText := true, laidKinds := [.data, .data], laidTests := true, laidLooks := .later }
def FamilyKnownCardSaid : Prop := Claim7.holds Tryd.pinned (.plain (OpenSpec.ofChange familyKnownSpec)) familyKnownCard

/-- THE SECOND FORM's CARD OF 'mandrellaw08.FamilyBooks'. -/
def familyBooksUptoCard : Claim7 := { stood := { row := familyBooksUptoRow, standIns := [], harness := (true, "1de586aba68f76f0b7d1a6946dc83601c43aa7ef50c89ceed4f957acf21bdcf0"), looks := false }, kinds := [], alts := [], laidByText := true, laidKinds := [.data, .data], laidTests := true, laidLooks := .later }
def FamilyBooksUptoCardSaid : Prop := Claim7.holds Tryd.pinned (.plain (OpenSpec.upto familyBooksSpec)) familyBooksUptoCard

/-- THE SECOND FORM's CARD OF 'mandrellaw08.FamilyPrices'. -/
def familyPricesUptoCard : Claim7 := { stood := { row := familyPricesUptoRow, standIns := [], harness := (true, "1de586aba68f76f0b7d1a6946dc83601c43aa7ef50c89ceed4f957acf21bdcf0"), looks := false }, kinds := [], alts := [], laidByText := true, laidKinds := [.data, .data], laidTests := true, laidLooks := .later }
def FamilyPricesUptoCardSaid : Prop := Claim7.holds Tryd.pinned (.plain (OpenSpec.upto familyPricesSpec)) familyPricesUptoCard

/-- THE SECOND FORM's CARD OF 'mandrellaw08.FamilyProved'. -/
def familyProvedUptoCard : Claim7 := { stood := { row := familyProvedUptoRow, standIns := [], harness := (true, "1de586aba68f76f0b7d1a6946dc83601c43aa7ef50c89ceed4f957acf21bdcf0"), looks := false }, kinds := [], alts := [], laidByText := true, laidKinds := [.data, .data], laidTests := true, laidLooks := .later }
def FamilyProvedUptoCardSaid : Prop := Claim7.holds Tryd.pinned (.plain (OpenSpec.upto familyProvedSpec)) familyProvedUptoCard

/-- THE SECOND FORM's CARD OF 'mandrellaw08.FamilyLost'. -/
def familyLostUptoCard : Claim7 := { stood := { row := familyLostUptoRow, standIns := [], harness := (true, "1de586aba68f76f0b7d1a6946dc83601c43aa7ef50c89ceed4f957acf21bdcf0"), looks := false }, kinds := [], alts := [], laidByText := true, laidKinds := [.data, .data], laidTests := true, laidLooks := .later }
def FamilyLostUptoCardSaid : Prop := Claim7.holds Tryd.pinned (.plain (OpenSpec.upto familyLostSpec)) familyLostUptoCard

/-- THE SECOND FORM's CARD OF 'mandrellaw08.FamilyMore'. -/
def familyMoreUptoCard : Claim7 := { stood := { row := familyMoreUptoRow, standIns := [], harness := (true, "1de586aba68f76f0b7d1a6946dc83601c43aa7ef50c89ceed4f957acf21bdcf0"), looks := false }, kinds := [], alts := [], laidByText := true, laidKinds := [.data, .data], laidTests := true, laidLooks := .later }
def FamilyMoreUptoCardSaid : Prop := Claim7.holds Tryd.pinned (.plain (OpenSpec.upto familyMoreSpec)) familyMoreUptoCard

/-- THE SECOND FORM's CARD OF 'mandrellaw08.FamilyGraded'. -/
def familyGradedUptoCard : Claim7 := { stood := { row := familyGradedUptoRow, standIns := [], harness := (true, "1de586aba68f76f0b7d1a6946dc83601c43aa7ef50c89ceed4f957acf21bdcf0"), looks := false }, kinds := [], alts := [], laidByText := true, laidKinds := [.data, .data], laidTests := true, laidLooks := .later }
def FamilyGradedUptoCardSaid : Prop := Claim7.holds Tryd.pinned (.plain (OpenSpec.upto familyGradedSpec)) familyGradedUptoCard

/-- THE SECOND FORM's CARD OF 'mandrellaw08.FamilyLargest'. -/
def familyLargestUptoCard : Claim7 := { stood := { row := familyLargestUptoRow, standIns := [], harness := (true, "1de586aba68f76f0b7d1a6946dc83601c43aa7ef50c89ceed4f957acf21bdcf0"), looks := false }, kinds := [], alts := [], laidByText := true, laidKinds := [.data, .data], laidTests := true, laidLooks := .later }
def FamilyLargestUptoCardSaid : Prop := Claim7.holds Tryd.pinned (.plain (OpenSpec.upto familyLargestSpec)) familyLargestUptoCard

/-- THE SECOND FORM's CARD OF 'mandrellaw08.FamilyNamed'. -/
def familyNamedUptoCard : Claim7 := { stood := { row := familyNamedUptoRow, standIns := [], harness := (true, "1de586aba68f76f0b7d1a6946dc83601c43aa7ef50c89ceed4f957acf21bdcf0"), looks := false }, kinds := [], alts := [], laidByText := true, laidKinds := [.data, .data], laidTests := true, laidLooks := .later }
def FamilyNamedUptoCardSaid : Prop := Claim7.holds Tryd.pinned (.plain (OpenSpec.upto familyNamedSpec)) familyNamedUptoCard

/-- THE SECOND FORM's CARD OF 'mandrellaw08.FamilyKnown'. -/
def familyKnownUptoCard : Claim7 := { stood := { row := familyKnownUptoRow, standIns := [], harness := (true, "1de586aba68f76f0b7d1a6946dc83601c43aa7ef50c89ceed4f957acf21bdcf0"), looks := false }, kinds := [], alts := [], laidByText := true, laidKinds := [.data, .data], laidTests := true, laidLooks := .later }
def FamilyKnownUptoCardSaid : Prop := Claim7.holds Tryd.pinned (.plain (OpenSpec.upto familyKnownSpec)) familyKnownUptoCard
end Rows
end Go.Proofs.YtggcooplhodocaaDoor
