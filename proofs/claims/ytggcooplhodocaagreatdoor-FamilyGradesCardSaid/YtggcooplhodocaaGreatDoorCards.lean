/-
  DERIVED. GIVEN WITH THE SEED: THE CARDS: each row of YtggcooplhodocaaGreatDoorRows.lean that lists a variable, with what it lists TIED to the program's text (the seventh form; the later family's looks); each row that meets fmt, with fmt's text TOLD by the authors' own Lean function (tested against real Go, not proved from fmt's source: count such statements apart). THE CARD IS WHAT COUNTS. Prove the row's statement (the work); the ties are given (YtggcooplhodocaaGreatDoorTie.lean); close each card by the builder's one call (the guide's Derived/Test/ToyasCard.lean, 'card_holds'). Laid BY PROGRAM, IN A SANDBOX (cutbox-door.mjs). By AI agents, Wed Nov 11 2026. No macro, syntax, notation, axiom, sorry.
-/
import Derived.Test.YtggcooplhodocaaGreatDoorRows
import GoSem.ClaimSeven
namespace Go.Proofs.YtggcooplhodocaaGreatDoor
namespace Rows

/-- THE TIED CARD OF 'mandrellaw08.FamilyCheapest'. -/
def familyCheapestCard : Claim7 := { stood := { row := familyCheapestRow, standIns := [], harness := (true, "03f40ee5f1ffbc171ad138f39c53751989ebd332e64bda523cd0f0ae23c97f89"), looks := false }, kinds := [], alts := [], laidByText := true, laidKinds := [.data, .data], laidTests := true, laidLooks := .later }
def FamilyCheapestCardSaid : Prop := Claim7.holds Tryz.pinned (.plain (OpenSpec.ofChange familyCheapestSpec)) familyCheapestCard

/-- THE TIED CARD OF 'mandrellaw08.FamilyGrades'. -/
def familyGradesCard : Claim7 := { stood := { row := familyGradesRow, standIns := [], harness := (true, "03f40ee5f1ffbc171ad138f39c53751989ebd332e64bda523cd0f0ae23c97f89"), looks := false }, kinds := [], alts := [], laidByText := true, laidKinds := [.data, .data], laidTests := true, laidLooks := .later }
def FamilyGradesCardSaid : Prop := Claim7.holds Tryz.pinned (.plain (OpenSpec.ofChange familyGradesSpec)) familyGradesCard

/-- THE SECOND FORM's CARD OF 'mandrellaw08.FamilyCheapest'. -/
def familyCheapestUptoCard : Claim7 := { stood := { row := familyCheapestUptoRow, standIns := [], harness := (true, "03f40ee5f1ffbc171ad138f39c53751989ebd332e64bda523cd0f0ae23c97f89"), looks := false }, kinds := [], alts := [], laidByText := true, laidKinds := [.data, .data], laidTests := true, laidLooks := .later }
def FamilyCheapestUptoCardSaid : Prop := Claim7.holds Tryz.pinned (.plain (OpenSpec.upto familyCheapestSpec)) familyCheapestUptoCard

/-- THE SECOND FORM's CARD OF 'mandrellaw08.FamilyGrades'. -/
def familyGradesUptoCard : Claim7 := { stood := { row := familyGradesUptoRow, standIns := [], harness := (true, "03f40ee5f1ffbc171ad138f39c53751989ebd332e64bda523cd0f0ae23c97f89"), looks := false }, kinds := [], alts := [], laidByText := true, laidKinds := [.data, .data], laidTests := true, laidLooks := .later }
def FamilyGradesUptoCardSaid : Prop := Claim7.holds Tryz.pinned (.plain (OpenSpec.upto familyGradesSpec)) familyGradesUptoCard
end Rows
end Go.Proofs.YtggcooplhodocaaGreatDoor
