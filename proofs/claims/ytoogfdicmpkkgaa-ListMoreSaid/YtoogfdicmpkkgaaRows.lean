/-
  No cell of these rows narrows 'for every input' (looked for: loops, veiled, ifaces, maps, wideKeys, modest, calm, conditions, laid).
  DERIVED. THE GIVEN ROWS OF THIS SEAT. 11 by the template 'for every input the law returns true; each argument reads behind the call as it read before'; 0 by the template 'total and deterministic' (their statements: YtoogfdicmpkkgaaTotals.lean).
  GIVEN WITH THE SEED: the statements are not yours to turn. If you find one false, say at which input.
  Laid BY PROGRAM, IN A SANDBOX (cutbox-rows.mjs): the forced cells as the released guide's own fill.sh prints them over the translation 2b2d76ab24643f01… (all of the seat's roots in one cut). By AI agents, Wed Nov 11 2026. No macro, syntax, notation, axiom, sorry.
-/
import Derived.Test.YtoogfdicmpkkgaaChecked
import GoSem.Claim
import GoSem.ClaimJoined
import GoSem.ClaimMapViews
import Derived.JoinedTies
import Derived.KernelRfl
namespace Go.Proofs.Ytoogfdicmpkkgaa
/- THE CELL 'sum', in the pinned program and in every row, IS THE sha256 OF THE DUMP (.gsa) THAT YtoogfdicmpkkgaaProg.lean LOADS. Nothing in Lean hashes anything: it is a label: what it is worth is what the hold of that sum in a sandbox is worth. -/
noncomputable def Try.pinned : Pinned := { name := "ytoogfdicmpkkgaa", sum := "2b2d76ab24643f0181b99cb0e65664d516019b7b9713f65020d68993539e6300", checked := Try.checked }
namespace Rows
def none {H : Type} : Left H := { results := [], args := [] }

/-- 'mandrellaw05.ListSheets': WHATEVER THE INPUT: true; the input reads as it did. -/
def listSheetsSpec : ChangeSpec := { name := "listSheets", fn := fun _ => fun
  | [d1, d2, d3] => { results := [.lit (.bool true)], args := [d1, d2, d3] }
  | _ => none }
def listSheetsRow : OpenClaim := { program := "ytoogfdicmpkkgaa", sum := "2b2d76ab24643f0181b99cb0e65664d516019b7b9713f65020d68993539e6300", func := "mandrel/mandrellaw05.ListSheets", spec := "listSheets", unfollowed := true, recurses := true, plainKeys := false, apart := false }
def ListSheetsSaid : Prop := listSheetsRow.holds Try.pinned (OpenSpec.ofChange listSheetsSpec)

/-- ITS FALSE NEIGHBOUR: 'it returns false'. Refute it at one input. -/
def listSheetsWrong : ChangeSpec := { name := "listSheets", fn := fun _ => fun
  | [d1, d2, d3] => { results := [.lit (.bool false)], args := [d1, d2, d3] }
  | _ => none }
def ListSheetsWrongFalsely : Prop := listSheetsRow.holds Try.pinned (OpenSpec.ofChange listSheetsWrong)

/-- 'mandrellaw05.ListGreatest': WHATEVER THE INPUT: true; the input reads as it did. -/
def listGreatestSpec : ChangeSpec := { name := "listGreatest", fn := fun _ => fun
  | [d] => { results := [.lit (.bool true)], args := [d] }
  | _ => none }
def listGreatestRow : OpenClaim := { program := "ytoogfdicmpkkgaa", sum := "2b2d76ab24643f0181b99cb0e65664d516019b7b9713f65020d68993539e6300", func := "mandrel/mandrellaw05.ListGreatest", spec := "listGreatest", unfollowed := true, recurses := true, plainKeys := false, apart := false }
def ListGreatestSaid : Prop := listGreatestRow.holds Try.pinned (OpenSpec.ofChange listGreatestSpec)

/-- ITS FALSE NEIGHBOUR: 'it returns false'. Refute it at one input. -/
def listGreatestWrong : ChangeSpec := { name := "listGreatest", fn := fun _ => fun
  | [d] => { results := [.lit (.bool false)], args := [d] }
  | _ => none }
def ListGreatestWrongFalsely : Prop := listGreatestRow.holds Try.pinned (OpenSpec.ofChange listGreatestWrong)

/-- 'mandrellaw05.ListKinds': WHATEVER THE INPUT: true; the input reads as it did. -/
def listKindsSpec : ChangeSpec := { name := "listKinds", fn := fun _ => fun
  | [d1, d2] => { results := [.lit (.bool true)], args := [d1, d2] }
  | _ => none }
def listKindsRow : OpenClaim := { program := "ytoogfdicmpkkgaa", sum := "2b2d76ab24643f0181b99cb0e65664d516019b7b9713f65020d68993539e6300", func := "mandrel/mandrellaw05.ListKinds", spec := "listKinds", unfollowed := true, recurses := true, plainKeys := false, apart := false }
def ListKindsSaid : Prop := listKindsRow.holds Try.pinned (OpenSpec.ofChange listKindsSpec)

/-- ITS FALSE NEIGHBOUR: 'it returns false'. Refute it at one input. -/
def listKindsWrong : ChangeSpec := { name := "listKinds", fn := fun _ => fun
  | [d1, d2] => { results := [.lit (.bool false)], args := [d1, d2] }
  | _ => none }
def ListKindsWrongFalsely : Prop := listKindsRow.holds Try.pinned (OpenSpec.ofChange listKindsWrong)

/-- 'mandrellaw05.ListAsks': WHATEVER THE INPUT: true; the input reads as it did. -/
def listAsksSpec : ChangeSpec := { name := "listAsks", fn := fun _ => fun
  | [d] => { results := [.lit (.bool true)], args := [d] }
  | _ => none }
def listAsksRow : OpenClaim := { program := "ytoogfdicmpkkgaa", sum := "2b2d76ab24643f0181b99cb0e65664d516019b7b9713f65020d68993539e6300", func := "mandrel/mandrellaw05.ListAsks", spec := "listAsks", unfollowed := true, recurses := true, plainKeys := false, apart := false }
def ListAsksSaid : Prop := listAsksRow.holds Try.pinned (OpenSpec.ofChange listAsksSpec)

/-- ITS FALSE NEIGHBOUR: 'it returns false'. Refute it at one input. -/
def listAsksWrong : ChangeSpec := { name := "listAsks", fn := fun _ => fun
  | [d] => { results := [.lit (.bool false)], args := [d] }
  | _ => none }
def ListAsksWrongFalsely : Prop := listAsksRow.holds Try.pinned (OpenSpec.ofChange listAsksWrong)

/-- 'mandrellaw05.ListProved': WHATEVER THE INPUT: true; the input reads as it did. -/
def listProvedSpec : ChangeSpec := { name := "listProved", fn := fun _ => fun
  | [d1, d2, d3, d4] => { results := [.lit (.bool true)], args := [d1, d2, d3, d4] }
  | _ => none }
def listProvedRow : OpenClaim := { program := "ytoogfdicmpkkgaa", sum := "2b2d76ab24643f0181b99cb0e65664d516019b7b9713f65020d68993539e6300", func := "mandrel/mandrellaw05.ListProved", spec := "listProved", unfollowed := true, recurses := true, plainKeys := false, apart := false }
def ListProvedSaid : Prop := listProvedRow.holds Try.pinned (OpenSpec.ofChange listProvedSpec)

/-- ITS FALSE NEIGHBOUR: 'it returns false'. Refute it at one input. -/
def listProvedWrong : ChangeSpec := { name := "listProved", fn := fun _ => fun
  | [d1, d2, d3, d4] => { results := [.lit (.bool false)], args := [d1, d2, d3, d4] }
  | _ => none }
def ListProvedWrongFalsely : Prop := listProvedRow.holds Try.pinned (OpenSpec.ofChange listProvedWrong)

/-- 'mandrellaw05.ListCertain': WHATEVER THE INPUT: true; the input reads as it did. -/
def listCertainSpec : ChangeSpec := { name := "listCertain", fn := fun _ => fun
  | [d1, d2, d3, d4] => { results := [.lit (.bool true)], args := [d1, d2, d3, d4] }
  | _ => none }
def listCertainRow : OpenClaim := { program := "ytoogfdicmpkkgaa", sum := "2b2d76ab24643f0181b99cb0e65664d516019b7b9713f65020d68993539e6300", func := "mandrel/mandrellaw05.ListCertain", spec := "listCertain", unfollowed := true, recurses := true, plainKeys := false, apart := false }
def ListCertainSaid : Prop := listCertainRow.holds Try.pinned (OpenSpec.ofChange listCertainSpec)

/-- ITS FALSE NEIGHBOUR: 'it returns false'. Refute it at one input. -/
def listCertainWrong : ChangeSpec := { name := "listCertain", fn := fun _ => fun
  | [d1, d2, d3, d4] => { results := [.lit (.bool false)], args := [d1, d2, d3, d4] }
  | _ => none }
def ListCertainWrongFalsely : Prop := listCertainRow.holds Try.pinned (OpenSpec.ofChange listCertainWrong)

/-- 'mandrellaw05.ListOrder': WHATEVER THE INPUT: true; the input reads as it did. -/
def listOrderSpec : ChangeSpec := { name := "listOrder", fn := fun _ => fun
  | [d1, d2] => { results := [.lit (.bool true)], args := [d1, d2] }
  | _ => none }
def listOrderRow : OpenClaim := { program := "ytoogfdicmpkkgaa", sum := "2b2d76ab24643f0181b99cb0e65664d516019b7b9713f65020d68993539e6300", func := "mandrel/mandrellaw05.ListOrder", spec := "listOrder", unfollowed := true, recurses := true, plainKeys := false, apart := false }
def ListOrderSaid : Prop := listOrderRow.holds Try.pinned (OpenSpec.ofChange listOrderSpec)

/-- ITS FALSE NEIGHBOUR: 'it returns false'. Refute it at one input. -/
def listOrderWrong : ChangeSpec := { name := "listOrder", fn := fun _ => fun
  | [d1, d2] => { results := [.lit (.bool false)], args := [d1, d2] }
  | _ => none }
def ListOrderWrongFalsely : Prop := listOrderRow.holds Try.pinned (OpenSpec.ofChange listOrderWrong)

/-- 'mandrellaw05.ListMore': WHATEVER THE INPUT: true; the input reads as it did. -/
def listMoreSpec : ChangeSpec := { name := "listMore", fn := fun _ => fun
  | [d1, d2, d3] => { results := [.lit (.bool true)], args := [d1, d2, d3] }
  | _ => none }
def listMoreRow : OpenClaim := { program := "ytoogfdicmpkkgaa", sum := "2b2d76ab24643f0181b99cb0e65664d516019b7b9713f65020d68993539e6300", func := "mandrel/mandrellaw05.ListMore", spec := "listMore", unfollowed := true, recurses := true, plainKeys := false, apart := false }
def ListMoreSaid : Prop := listMoreRow.holds Try.pinned (OpenSpec.ofChange listMoreSpec)

/-- ITS FALSE NEIGHBOUR: 'it returns false'. Refute it at one input. -/
def listMoreWrong : ChangeSpec := { name := "listMore", fn := fun _ => fun
  | [d1, d2, d3] => { results := [.lit (.bool false)], args := [d1, d2, d3] }
  | _ => none }
def ListMoreWrongFalsely : Prop := listMoreRow.holds Try.pinned (OpenSpec.ofChange listMoreWrong)

/-- 'mandrellaw05.ListAnswered': WHATEVER THE INPUT: true; the input reads as it did. -/
def listAnsweredSpec : ChangeSpec := { name := "listAnswered", fn := fun _ => fun
  | [d1, d2] => { results := [.lit (.bool true)], args := [d1, d2] }
  | _ => none }
def listAnsweredRow : OpenClaim := { program := "ytoogfdicmpkkgaa", sum := "2b2d76ab24643f0181b99cb0e65664d516019b7b9713f65020d68993539e6300", func := "mandrel/mandrellaw05.ListAnswered", spec := "listAnswered", unfollowed := true, recurses := true, plainKeys := false, apart := false }
def ListAnsweredSaid : Prop := listAnsweredRow.holds Try.pinned (OpenSpec.ofChange listAnsweredSpec)

/-- ITS FALSE NEIGHBOUR: 'it returns false'. Refute it at one input. -/
def listAnsweredWrong : ChangeSpec := { name := "listAnswered", fn := fun _ => fun
  | [d1, d2] => { results := [.lit (.bool false)], args := [d1, d2] }
  | _ => none }
def ListAnsweredWrongFalsely : Prop := listAnsweredRow.holds Try.pinned (OpenSpec.ofChange listAnsweredWrong)

/-- 'mandrellaw05.ListItems': WHATEVER THE INPUT: true; the input reads as it did. -/
def listItemsSpec : ChangeSpec := { name := "listItems", fn := fun _ => fun
  | [d1, d2] => { results := [.lit (.bool true)], args := [d1, d2] }
  | _ => none }
def listItemsRow : OpenClaim := { program := "ytoogfdicmpkkgaa", sum := "2b2d76ab24643f0181b99cb0e65664d516019b7b9713f65020d68993539e6300", func := "mandrel/mandrellaw05.ListItems", spec := "listItems", unfollowed := true, recurses := true, plainKeys := false, apart := false }
def ListItemsSaid : Prop := listItemsRow.holds Try.pinned (OpenSpec.ofChange listItemsSpec)

/-- ITS FALSE NEIGHBOUR: 'it returns false'. Refute it at one input. -/
def listItemsWrong : ChangeSpec := { name := "listItems", fn := fun _ => fun
  | [d1, d2] => { results := [.lit (.bool false)], args := [d1, d2] }
  | _ => none }
def ListItemsWrongFalsely : Prop := listItemsRow.holds Try.pinned (OpenSpec.ofChange listItemsWrong)

/-- 'mandrellaw05.ListExamples': WHATEVER THE INPUT: true; the input reads as it did. -/
def listExamplesSpec : ChangeSpec := { name := "listExamples", fn := fun _ => fun
  | [] => { results := [.lit (.bool true)], args := [] }
  | _ => none }
def listExamplesRow : OpenClaim := { program := "ytoogfdicmpkkgaa", sum := "2b2d76ab24643f0181b99cb0e65664d516019b7b9713f65020d68993539e6300", func := "mandrel/mandrellaw05.ListExamples", spec := "listExamples", unfollowed := true, recurses := true, plainKeys := false, apart := false }
def ListExamplesSaid : Prop := listExamplesRow.holds Try.pinned (OpenSpec.ofChange listExamplesSpec)

/-- ITS FALSE NEIGHBOUR: 'it returns false'. Refute it at one input. -/
def listExamplesWrong : ChangeSpec := { name := "listExamples", fn := fun _ => fun
  | [] => { results := [.lit (.bool false)], args := [] }
  | _ => none }
def ListExamplesWrongFalsely : Prop := listExamplesRow.holds Try.pinned (OpenSpec.ofChange listExamplesWrong)

/- THE SECOND FORM. 'bulk': how many values and letters a reading holds, each counted each time it is reached (what is shared counts as often as it is met; a slice's spare places count too). A statement '..UptoSaid' is the law's where the arguments, and the package variables that the reading takes, are together of bulk at most 1048576: NARROWER than '..Said'. Prove '..Said' where nothing that the law and all that it calls make is longer than what came in: it says more and counts as full. Else prove '..UptoSaid'. A law counts once. -/
mutual
def uptoBulk {H : Type} : DataW H → Nat
  | .lit (.string bytes) => bytes.length + 1
  | .lit _ => 1
  | .nil => 1
  | .ptr d => uptoBulk d + 1
  | .slice elems spare => uptoBulkAll elems + uptoBulkAll spare + 1
  | .agg parts => uptoBulkAll parts + 1
  | .iface _ d => uptoBulk d + 1
  | .map entries => uptoBulkEntries entries + 1
  | .held _ => 1
def uptoBulkAll {H : Type} : List (DataW H) → Nat
  | [] => 0
  | d :: r => uptoBulk d + uptoBulkAll r
def uptoBulkEntries {H : Type} : List (Lit × DataW H) → Nat
  | [] => 0
  | x :: r => uptoBulkEntry x + uptoBulkEntries r
def uptoBulkEntry {H : Type} : Lit × DataW H → Nat
  | (.string bytes, d) => bytes.length + uptoBulk d + 1
  | (_, d) => uptoBulk d + 1
 end
def uptoSmall : (H : Type) → List (DataW H) → Bool := fun _ ds => decide (uptoBulkAll ds ≤ 1048576)
def OpenSpec.upto (s : _root_.Go.ChangeSpec) : _root_.Go.OpenSpec := { _root_.Go.OpenSpec.ofChange s with cond := some uptoSmall }

/-- 'mandrellaw05.ListSheets', WHERE WHAT IT READS IS OF BULK AT MOST 1048576: true; the input reads as it did. -/
def listSheetsUptoRow : OpenClaim := { program := "ytoogfdicmpkkgaa", sum := "2b2d76ab24643f0181b99cb0e65664d516019b7b9713f65020d68993539e6300", func := "mandrel/mandrellaw05.ListSheets", spec := "listSheets", unfollowed := true, recurses := true, plainKeys := false, apart := false, narrowed := true }
def ListSheetsUptoSaid : Prop := listSheetsUptoRow.holds Try.pinned (OpenSpec.upto listSheetsSpec)

/-- 'mandrellaw05.ListGreatest', WHERE WHAT IT READS IS OF BULK AT MOST 1048576: true; the input reads as it did. -/
def listGreatestUptoRow : OpenClaim := { program := "ytoogfdicmpkkgaa", sum := "2b2d76ab24643f0181b99cb0e65664d516019b7b9713f65020d68993539e6300", func := "mandrel/mandrellaw05.ListGreatest", spec := "listGreatest", unfollowed := true, recurses := true, plainKeys := false, apart := false, narrowed := true }
def ListGreatestUptoSaid : Prop := listGreatestUptoRow.holds Try.pinned (OpenSpec.upto listGreatestSpec)

/-- 'mandrellaw05.ListKinds', WHERE WHAT IT READS IS OF BULK AT MOST 1048576: true; the input reads as it did. -/
def listKindsUptoRow : OpenClaim := { program := "ytoogfdicmpkkgaa", sum := "2b2d76ab24643f0181b99cb0e65664d516019b7b9713f65020d68993539e6300", func := "mandrel/mandrellaw05.ListKinds", spec := "listKinds", unfollowed := true, recurses := true, plainKeys := false, apart := false, narrowed := true }
def ListKindsUptoSaid : Prop := listKindsUptoRow.holds Try.pinned (OpenSpec.upto listKindsSpec)

/-- 'mandrellaw05.ListAsks', WHERE WHAT IT READS IS OF BULK AT MOST 1048576: true; the input reads as it did. -/
def listAsksUptoRow : OpenClaim := { program := "ytoogfdicmpkkgaa", sum := "2b2d76ab24643f0181b99cb0e65664d516019b7b9713f65020d68993539e6300", func := "mandrel/mandrellaw05.ListAsks", spec := "listAsks", unfollowed := true, recurses := true, plainKeys := false, apart := false, narrowed := true }
def ListAsksUptoSaid : Prop := listAsksUptoRow.holds Try.pinned (OpenSpec.upto listAsksSpec)

/-- 'mandrellaw05.ListProved', WHERE WHAT IT READS IS OF BULK AT MOST 1048576: true; the input reads as it did. -/
def listProvedUptoRow : OpenClaim := { program := "ytoogfdicmpkkgaa", sum := "2b2d76ab24643f0181b99cb0e65664d516019b7b9713f65020d68993539e6300", func := "mandrel/mandrellaw05.ListProved", spec := "listProved", unfollowed := true, recurses := true, plainKeys := false, apart := false, narrowed := true }
def ListProvedUptoSaid : Prop := listProvedUptoRow.holds Try.pinned (OpenSpec.upto listProvedSpec)

/-- 'mandrellaw05.ListCertain', WHERE WHAT IT READS IS OF BULK AT MOST 1048576: true; the input reads as it did. -/
def listCertainUptoRow : OpenClaim := { program := "ytoogfdicmpkkgaa", sum := "2b2d76ab24643f0181b99cb0e65664d516019b7b9713f65020d68993539e6300", func := "mandrel/mandrellaw05.ListCertain", spec := "listCertain", unfollowed := true, recurses := true, plainKeys := false, apart := false, narrowed := true }
def ListCertainUptoSaid : Prop := listCertainUptoRow.holds Try.pinned (OpenSpec.upto listCertainSpec)

/-- 'mandrellaw05.ListOrder', WHERE WHAT IT READS IS OF BULK AT MOST 1048576: true; the input reads as it did. -/
def listOrderUptoRow : OpenClaim := { program := "ytoogfdicmpkkgaa", sum := "2b2d76ab24643f0181b99cb0e65664d516019b7b9713f65020d68993539e6300", func := "mandrel/mandrellaw05.ListOrder", spec := "listOrder", unfollowed := true, recurses := true, plainKeys := false, apart := false, narrowed := true }
def ListOrderUptoSaid : Prop := listOrderUptoRow.holds Try.pinned (OpenSpec.upto listOrderSpec)

/-- 'mandrellaw05.ListMore', WHERE WHAT IT READS IS OF BULK AT MOST 1048576: true; the input reads as it did. -/
def listMoreUptoRow : OpenClaim := { program := "ytoogfdicmpkkgaa", sum := "2b2d76ab24643f0181b99cb0e65664d516019b7b9713f65020d68993539e6300", func := "mandrel/mandrellaw05.ListMore", spec := "listMore", unfollowed := true, recurses := true, plainKeys := false, apart := false, narrowed := true }
def ListMoreUptoSaid : Prop := listMoreUptoRow.holds Try.pinned (OpenSpec.upto listMoreSpec)

/-- 'mandrellaw05.ListAnswered', WHERE WHAT IT READS IS OF BULK AT MOST 1048576: true; the input reads as it did. -/
def listAnsweredUptoRow : OpenClaim := { program := "ytoogfdicmpkkgaa", sum := "2b2d76ab24643f0181b99cb0e65664d516019b7b9713f65020d68993539e6300", func := "mandrel/mandrellaw05.ListAnswered", spec := "listAnswered", unfollowed := true, recurses := true, plainKeys := false, apart := false, narrowed := true }
def ListAnsweredUptoSaid : Prop := listAnsweredUptoRow.holds Try.pinned (OpenSpec.upto listAnsweredSpec)

/-- 'mandrellaw05.ListItems', WHERE WHAT IT READS IS OF BULK AT MOST 1048576: true; the input reads as it did. -/
def listItemsUptoRow : OpenClaim := { program := "ytoogfdicmpkkgaa", sum := "2b2d76ab24643f0181b99cb0e65664d516019b7b9713f65020d68993539e6300", func := "mandrel/mandrellaw05.ListItems", spec := "listItems", unfollowed := true, recurses := true, plainKeys := false, apart := false, narrowed := true }
def ListItemsUptoSaid : Prop := listItemsUptoRow.holds Try.pinned (OpenSpec.upto listItemsSpec)

/-- 'mandrellaw05.ListExamples', WHERE WHAT IT READS IS OF BULK AT MOST 1048576: true; the input reads as it did. -/
def listExamplesUptoRow : OpenClaim := { program := "ytoogfdicmpkkgaa", sum := "2b2d76ab24643f0181b99cb0e65664d516019b7b9713f65020d68993539e6300", func := "mandrel/mandrellaw05.ListExamples", spec := "listExamples", unfollowed := true, recurses := true, plainKeys := false, apart := false, narrowed := true }
def ListExamplesUptoSaid : Prop := listExamplesUptoRow.holds Try.pinned (OpenSpec.upto listExamplesSpec)

end Rows
end Go.Proofs.Ytoogfdicmpkkgaa
