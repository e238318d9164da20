/-
  NARROWER THAN 'FOR EVERY INPUT', by the rows' own cells (each row's printed sentence says how): FamilyBooks: laid · FamilyPrices: laid · FamilyProved: laid · FamilyLost: laid · FamilyMore: laid · FamilyGraded: laid · FamilyLargest: laid · FamilyNamed: laid · FamilyKnown: laid.
  DERIVED. THE GIVEN ROWS OF THIS SEAT. 9 by the template 'for every input the law returns true; each argument reads behind the call as it read before'; 0 by the template 'total and deterministic' (their statements: YtggcooplhodocaaDoorTotals.lean).
  GIVEN WITH THE SEED: the statements are not yours to turn. If you find one false, say at which input.
  Laid BY PROGRAM, IN A SANDBOX (cutbox-rows.mjs): the forced cells as the released guide's own fill.sh prints them over the translation 89a0d5239d2a23fb… (all of the seat's roots in one cut). By AI agents, Wed Nov 11 2026. No macro, syntax, notation, axiom, sorry.
-/
import Derived.Test.YtggcooplhodocaaDoorChecked
import GoSem.Claim
import GoSem.ClaimJoined
import GoSem.ClaimMapViews
import Derived.JoinedTies
import Derived.KernelRfl
namespace Go.Proofs.YtggcooplhodocaaDoor
/- THE CELL 'sum', in the pinned program and in every row, IS THE sha256 OF THE DUMP (.gsa) THAT YtggcooplhodocaaDoorProg.lean LOADS. Nothing in Lean hashes anything: it is a label: what it is worth is what the hold of that sum in a sandbox is worth. -/
noncomputable def Tryd.pinned : Pinned := { name := "ytggcooplhodocaadoor", sum := "89a0d5239d2a23fbc10dc93074d4e63292c38ffba3e69238f655bec3ae5b297a", checked := Tryd.checked }
namespace Rows
def none {H : Type} : Left H := { results := [], args := [] }

/- WHAT THE LISTED PACKAGE-LEVEL VARIABLES READ AS WHEN THE CALL BEGINS. Each datum BY PROGRAM (the guide's laid-datum.mjs) off the statement by which the dump's own 'gosem.cut.vars' lays the variable. In a bare row this is a premise. The card (YtggcooplhodocaaDoorCards.lean) ties it to the program's text. -/
def laid_math_bits_deBruijn32tab {H : Type} : DataW H := .agg [.lit (.int .u8 0), .lit (.int .u8 1), .lit (.int .u8 28), .lit (.int .u8 2), .lit (.int .u8 29), .lit (.int .u8 14), .lit (.int .u8 24), .lit (.int .u8 3), .lit (.int .u8 30), .lit (.int .u8 22), .lit (.int .u8 20), .lit (.int .u8 15), .lit (.int .u8 25), .lit (.int .u8 17), .lit (.int .u8 4), .lit (.int .u8 8), .lit (.int .u8 31), .lit (.int .u8 27), .lit (.int .u8 13), .lit (.int .u8 23), .lit (.int .u8 21), .lit (.int .u8 19), .lit (.int .u8 16), .lit (.int .u8 7), .lit (.int .u8 26), .lit (.int .u8 12), .lit (.int .u8 18), .lit (.int .u8 6), .lit (.int .u8 11), .lit (.int .u8 5), .lit (.int .u8 10), .lit (.int .u8 9)]
def laid_math_bits_deBruijn64tab {H : Type} : DataW H := .agg [.lit (.int .u8 0), .lit (.int .u8 1), .lit (.int .u8 56), .lit (.int .u8 2), .lit (.int .u8 57), .lit (.int .u8 49), .lit (.int .u8 28), .lit (.int .u8 3), .lit (.int .u8 61), .lit (.int .u8 58), .lit (.int .u8 42), .lit (.int .u8 50), .lit (.int .u8 38), .lit (.int .u8 29), .lit (.int .u8 17), .lit (.int .u8 4), .lit (.int .u8 62), .lit (.int .u8 47), .lit (.int .u8 59), .lit (.int .u8 36), .lit (.int .u8 45), .lit (.int .u8 43), .lit (.int .u8 51), .lit (.int .u8 22), .lit (.int .u8 53), .lit (.int .u8 39), .lit (.int .u8 33), .lit (.int .u8 30), .lit (.int .u8 24), .lit (.int .u8 18), .lit (.int .u8 12), .lit (.int .u8 5), .lit (.int .u8 63), .lit (.int .u8 55), .lit (.int .u8 48), .lit (.int .u8 27), .lit (.int .u8 60), .lit (.int .u8 41), .lit (.int .u8 37), .lit (.int .u8 16), .lit (.int .u8 46), .lit (.int .u8 35), .lit (.int .u8 44), .lit (.int .u8 21), .lit (.int .u8 52), .lit (.int .u8 32), .lit (.int .u8 23), .lit (.int .u8 11), .lit (.int .u8 54), .lit (.int .u8 26), .lit (.int .u8 40), .lit (.int .u8 15), .lit (.int .u8 34), .lit (.int .u8 20), .lit (.int .u8 31), .lit (.int .u8 10), .lit (.int .u8 25), .lit (.int .u8 14), .lit (.int .u8 19), .lit (.int .u8 9), .lit (.int .u8 13), .lit (.int .u8 8), .lit (.int .u8 7), .lit (.int .u8 6)]

/-- 'mandrellaw08.FamilyBooks': WHATEVER THE INPUT: true; the input reads as it did. -/
def familyBooksSpec : ChangeSpec := { name := "familyBooks", fn := fun _ => fun
  | [d1, d2] => { results := [.lit (.bool true)], args := [d1, d2] }
  | _ => none }
def familyBooksRow : OpenClaim := { program := "ytggcooplhodocaadoor", sum := "89a0d5239d2a23fbc10dc93074d4e63292c38ffba3e69238f655bec3ae5b297a", func := "mandrel/mandrellaw08.FamilyBooks", spec := "familyBooks", unfollowed := true, recurses := true, named := ["math/bits.deBruijn32tab", "math/bits.deBruijn64tab"], apart := false, laid := [("math/bits.deBruijn32tab", laid_math_bits_deBruijn32tab), ("math/bits.deBruijn64tab", laid_math_bits_deBruijn64tab)] }
def FamilyBooksSaid : Prop := familyBooksRow.holds Tryd.pinned (OpenSpec.ofChange familyBooksSpec)

/-- ITS FALSE NEIGHBOUR: 'it returns false'. Refute it at one input. -/
def familyBooksWrong : ChangeSpec := { name := "familyBooks", fn := fun _ => fun
  | [d1, d2] => { results := [.lit (.bool false)], args := [d1, d2] }
  | _ => none }
def FamilyBooksWrongFalsely : Prop := familyBooksRow.holds Tryd.pinned (OpenSpec.ofChange familyBooksWrong)

/-- 'mandrellaw08.FamilyPrices': WHATEVER THE INPUT: true; the input reads as it did. -/
def familyPricesSpec : ChangeSpec := { name := "familyPrices", fn := fun _ => fun
  | [d1, d2] => { results := [.lit (.bool true)], args := [d1, d2] }
  | _ => none }
def familyPricesRow : OpenClaim := { program := "ytggcooplhodocaadoor", sum := "89a0d5239d2a23fbc10dc93074d4e63292c38ffba3e69238f655bec3ae5b297a", func := "mandrel/mandrellaw08.FamilyPrices", spec := "familyPrices", unfollowed := true, recurses := true, named := ["math/bits.deBruijn32tab", "math/bits.deBruijn64tab"], apart := false, laid := [("math/bits.deBruijn32tab", laid_math_bits_deBruijn32tab), ("math/bits.deBruijn64tab", laid_math_bits_deBruijn64tab)] }
def FamilyPricesSaid : Prop := familyPricesRow.holds Tryd.pinned (OpenSpec.ofChange familyPricesSpec)

/-- ITS FALSE NEIGHBOUR: 'it returns false'. Refute it at one input. -/
def familyPricesWrong : ChangeSpec := { name := "familyPrices", fn := fun _ => fun
  | [d1, d2] => { results := [.lit (.bool false)], args := [d1, d2] }
  | _ => none }
def FamilyPricesWrongFalsely : Prop := familyPricesRow.holds Tryd.pinned (OpenSpec.ofChange familyPricesWrong)

/-- 'mandrellaw08.FamilyProved': WHATEVER THE INPUT: true; the input reads as it did. -/
def familyProvedSpec : ChangeSpec := { name := "familyProved", fn := fun _ => fun
  | [d1, d2, d3, d4] => { results := [.lit (.bool true)], args := [d1, d2, d3, d4] }
  | _ => none }
def familyProvedRow : OpenClaim := { program := "ytggcooplhodocaadoor", sum := "89a0d5239d2a23fbc10dc93074d4e63292c38ffba3e69238f655bec3ae5b297a", func := "mandrel/mandrellaw08.FamilyProved", spec := "familyProved", unfollowed := true, recurses := true, named := ["math/bits.deBruijn32tab", "math/bits.deBruijn64tab"], apart := false, laid := [("math/bits.deBruijn32tab", laid_math_bits_deBruijn32tab), ("math/bits.deBruijn64tab", laid_math_bits_deBruijn64tab)] }
def FamilyProvedSaid : Prop := familyProvedRow.holds Tryd.pinned (OpenSpec.ofChange familyProvedSpec)

/-- ITS FALSE NEIGHBOUR: 'it returns false'. Refute it at one input. -/
def familyProvedWrong : ChangeSpec := { name := "familyProved", fn := fun _ => fun
  | [d1, d2, d3, d4] => { results := [.lit (.bool false)], args := [d1, d2, d3, d4] }
  | _ => none }
def FamilyProvedWrongFalsely : Prop := familyProvedRow.holds Tryd.pinned (OpenSpec.ofChange familyProvedWrong)

/-- 'mandrellaw08.FamilyLost': WHATEVER THE INPUT: true; the input reads as it did. -/
def familyLostSpec : ChangeSpec := { name := "familyLost", fn := fun _ => fun
  | [d] => { results := [.lit (.bool true)], args := [d] }
  | _ => none }
def familyLostRow : OpenClaim := { program := "ytggcooplhodocaadoor", sum := "89a0d5239d2a23fbc10dc93074d4e63292c38ffba3e69238f655bec3ae5b297a", func := "mandrel/mandrellaw08.FamilyLost", spec := "familyLost", unfollowed := true, recurses := true, named := ["math/bits.deBruijn32tab", "math/bits.deBruijn64tab"], apart := false, laid := [("math/bits.deBruijn32tab", laid_math_bits_deBruijn32tab), ("math/bits.deBruijn64tab", laid_math_bits_deBruijn64tab)] }
def FamilyLostSaid : Prop := familyLostRow.holds Tryd.pinned (OpenSpec.ofChange familyLostSpec)

/-- ITS FALSE NEIGHBOUR: 'it returns false'. Refute it at one input. -/
def familyLostWrong : ChangeSpec := { name := "familyLost", fn := fun _ => fun
  | [d] => { results := [.lit (.bool false)], args := [d] }
  | _ => none }
def FamilyLostWrongFalsely : Prop := familyLostRow.holds Tryd.pinned (OpenSpec.ofChange familyLostWrong)

/-- 'mandrellaw08.FamilyMore': WHATEVER THE INPUT: true; the input reads as it did. -/
def familyMoreSpec : ChangeSpec := { name := "familyMore", fn := fun _ => fun
  | [d1, d2, d3, d4, d5, d6] => { results := [.lit (.bool true)], args := [d1, d2, d3, d4, d5, d6] }
  | _ => none }
def familyMoreRow : OpenClaim := { program := "ytggcooplhodocaadoor", sum := "89a0d5239d2a23fbc10dc93074d4e63292c38ffba3e69238f655bec3ae5b297a", func := "mandrel/mandrellaw08.FamilyMore", spec := "familyMore", unfollowed := true, recurses := true, named := ["math/bits.deBruijn32tab", "math/bits.deBruijn64tab"], apart := false, laid := [("math/bits.deBruijn32tab", laid_math_bits_deBruijn32tab), ("math/bits.deBruijn64tab", laid_math_bits_deBruijn64tab)] }
def FamilyMoreSaid : Prop := familyMoreRow.holds Tryd.pinned (OpenSpec.ofChange familyMoreSpec)

/-- ITS FALSE NEIGHBOUR: 'it returns false'. Refute it at one input. -/
def familyMoreWrong : ChangeSpec := { name := "familyMore", fn := fun _ => fun
  | [d1, d2, d3, d4, d5, d6] => { results := [.lit (.bool false)], args := [d1, d2, d3, d4, d5, d6] }
  | _ => none }
def FamilyMoreWrongFalsely : Prop := familyMoreRow.holds Tryd.pinned (OpenSpec.ofChange familyMoreWrong)

/-- 'mandrellaw08.FamilyGraded': WHATEVER THE INPUT: true; the input reads as it did. -/
def familyGradedSpec : ChangeSpec := { name := "familyGraded", fn := fun _ => fun
  | [d1, d2] => { results := [.lit (.bool true)], args := [d1, d2] }
  | _ => none }
def familyGradedRow : OpenClaim := { program := "ytggcooplhodocaadoor", sum := "89a0d5239d2a23fbc10dc93074d4e63292c38ffba3e69238f655bec3ae5b297a", func := "mandrel/mandrellaw08.FamilyGraded", spec := "familyGraded", unfollowed := true, recurses := true, named := ["math/bits.deBruijn32tab", "math/bits.deBruijn64tab"], apart := false, laid := [("math/bits.deBruijn32tab", laid_math_bits_deBruijn32tab), ("math/bits.deBruijn64tab", laid_math_bits_deBruijn64tab)] }
def FamilyGradedSaid : Prop := familyGradedRow.holds Tryd.pinned (OpenSpec.ofChange familyGradedSpec)

/-- ITS FALSE NEIGHBOUR: 'it returns false'. Refute it at one input. -/
def familyGradedWrong : ChangeSpec := { name := "familyGraded", fn := fun _ => fun
  | [d1, d2] => { results := [.lit (.bool false)], args := [d1, d2] }
  | _ => none }
def FamilyGradedWrongFalsely : Prop := familyGradedRow.holds Tryd.pinned (OpenSpec.ofChange familyGradedWrong)

/-- 'mandrellaw08.FamilyLargest': WHATEVER THE INPUT: true; the input reads as it did. -/
def familyLargestSpec : ChangeSpec := { name := "familyLargest", fn := fun _ => fun
  | [d1, d2] => { results := [.lit (.bool true)], args := [d1, d2] }
  | _ => none }
def familyLargestRow : OpenClaim := { program := "ytggcooplhodocaadoor", sum := "89a0d5239d2a23fbc10dc93074d4e63292c38ffba3e69238f655bec3ae5b297a", func := "mandrel/mandrellaw08.FamilyLargest", spec := "familyLargest", unfollowed := true, recurses := true, named := ["math/bits.deBruijn32tab", "math/bits.deBruijn64tab"], apart := false, laid := [("math/bits.deBruijn32tab", laid_math_bits_deBruijn32tab), ("math/bits.deBruijn64tab", laid_math_bits_deBruijn64tab)] }
def FamilyLargestSaid : Prop := familyLargestRow.holds Tryd.pinned (OpenSpec.ofChange familyLargestSpec)

/-- ITS FALSE NEIGHBOUR: 'it returns false'. Refute it at one input. -/
def familyLargestWrong : ChangeSpec := { name := "familyLargest", fn := fun _ => fun
  | [d1, d2] => { results := [.lit (.bool false)], args := [d1, d2] }
  | _ => none }
def FamilyLargestWrongFalsely : Prop := familyLargestRow.holds Tryd.pinned (OpenSpec.ofChange familyLargestWrong)

/-- 'mandrellaw08.FamilyNamed': WHATEVER THE INPUT: true; the input reads as it did. -/
def familyNamedSpec : ChangeSpec := { name := "familyNamed", fn := fun _ => fun
  | [d1, d2, d3] => { results := [.lit (.bool true)], args := [d1, d2, d3] }
  | _ => none }
def familyNamedRow : OpenClaim := { program := "ytggcooplhodocaadoor", sum := "89a0d5239d2a23fbc10dc93074d4e63292c38ffba3e69238f655bec3ae5b297a", func := "mandrel/mandrellaw08.FamilyNamed", spec := "familyNamed", unfollowed := true, recurses := true, named := ["math/bits.deBruijn32tab", "math/bits.deBruijn64tab"], apart := false, laid := [("math/bits.deBruijn32tab", laid_math_bits_deBruijn32tab), ("math/bits.deBruijn64tab", laid_math_bits_deBruijn64tab)] }
def FamilyNamedSaid : Prop := familyNamedRow.holds Tryd.pinned (OpenSpec.ofChange familyNamedSpec)

/-- ITS FALSE NEIGHBOUR: 'it returns false'. Refute it at one input. -/
def familyNamedWrong : ChangeSpec := { name := "familyNamed", fn := fun _ => fun
  | [d1, d2, d3] => { results := [.lit (.bool false)], args := [d1, d2, d3] }
  | _ => none }
def FamilyNamedWrongFalsely : Prop := familyNamedRow.holds Tryd.pinned (OpenSpec.ofChange familyNamedWrong)

/-- 'mandrellaw08.FamilyKnown': WHATEVER THE INPUT: true; the input reads as it did. -/
def familyKnownSpec : ChangeSpec := { name := "familyKnown", fn := fun _ => fun
  | [] => { results := [.lit (.bool true)], args := [] }
  | _ => none }
def familyKnownRow : OpenClaim := { program := "ytggcooplhodocaadoor", sum := "89a0d5239d2a23fbc10dc93074d4e63292c38ffba3e69238f655bec3ae5b297a", func := "mandrel/mandrellaw08.FamilyKnown", spec := "familyKnown", unfollowed := true, recurses := true, named := ["math/bits.deBruijn32tab", "math/bits.deBruijn64tab"], apart := false, laid := [("math/bits.deBruijn32tab", laid_math_bits_deBruijn32tab), ("math/bits.deBruijn64tab", laid_math_bits_deBruijn64tab)] }
def FamilyKnownSaid : Prop := familyKnownRow.holds Tryd.pinned (OpenSpec.ofChange familyKnownSpec)

/-- ITS FALSE NEIGHBOUR: 'it returns false'. Refute it at one input. -/
def familyKnownWrong : ChangeSpec := { name := "familyKnown", fn := fun _ => fun
  | [] => { results := [.lit (.bool false)], args := [] }
  | _ => none }
def FamilyKnownWrongFalsely : Prop := familyKnownRow.holds Tryd.pinned (OpenSpec.ofChange familyKnownWrong)

/- THE SECOND FORM. 'bulk': how many values and letters a reading holds, each counted each time it is reached (what is shared counts as often as it is met; a slice's spare places count too). A statement '..UptoSaid' is the law's where the arguments, and the package variables that the reading takes, are together of bulk at most 1048576: NARROWER than '..Said'. Prove '..Said' where nothing that the law and all that it calls make is longer than what came in: it says more and counts as full. Else prove '..UptoSaid'. A law counts once. -/
mutual
def uptoBulk {H : Type} : DataW H → Nat
  | .lit (.string bytes) => bytes.length + 1
  | .lit _ => 1
  | .nil => 1
  | .ptr d => uptoBulk d + 1
  | .slice elems spare => uptoBulkAll elems + uptoBulkAll spare + 1
  | .agg parts => uptoBulkAll parts + 1
  | .iface _ d => uptoBulk d + 1
  | .map entries => uptoBulkEntries entries + 1
  | .held _ => 1
def uptoBulkAll {H : Type} : List (DataW H) → Nat
  | [] => 0
  | d :: r => uptoBulk d + uptoBulkAll r
def uptoBulkEntries {H : Type} : List (Lit × DataW H) → Nat
  | [] => 0
  | x :: r => uptoBulkEntry x + uptoBulkEntries r
def uptoBulkEntry {H : Type} : Lit × DataW H → Nat
  | (.string bytes, d) => bytes.length + uptoBulk d + 1
  | (_, d) => uptoBulk d + 1
 end
def uptoSmall : (H : Type) → List (DataW H) → Bool := fun _ ds => decide (uptoBulkAll ds ≤ 1048576)
def OpenSpec.upto (s : _root_.Go.ChangeSpec) : _root_.Go.OpenSpec := { _root_.Go.OpenSpec.ofChange s with cond := some uptoSmall }

/-- 'mandrellaw08.FamilyBooks', WHERE WHAT IT READS IS OF BULK AT MOST 1048576: true; the input reads as it did. -/
def familyBooksUptoRow : OpenClaim := { program := "ytggcooplhodocaadoor", sum := "89a0d5239d2a23fbc10dc93074d4e63292c38ffba3e69238f655bec3ae5b297a", func := "mandrel/mandrellaw08.FamilyBooks", spec := "familyBooks", unfollowed := true, recurses := true, named := ["math/bits.deBruijn32tab", "math/bits.deBruijn64tab"], apart := false, laid := [("math/bits.deBruijn32tab", laid_math_bits_deBruijn32tab), ("math/bits.deBruijn64tab", laid_math_bits_deBruijn64tab)], narrowed := true }
def FamilyBooksUptoSaid : Prop := familyBooksUptoRow.holds Tryd.pinned (OpenSpec.upto familyBooksSpec)

/-- 'mandrellaw08.FamilyPrices', WHERE WHAT IT READS IS OF BULK AT MOST 1048576: true; the input reads as it did. -/
def familyPricesUptoRow : OpenClaim := { program := "ytggcooplhodocaadoor", sum := "89a0d5239d2a23fbc10dc93074d4e63292c38ffba3e69238f655bec3ae5b297a", func := "mandrel/mandrellaw08.FamilyPrices", spec := "familyPrices", unfollowed := true, recurses := true, named := ["math/bits.deBruijn32tab", "math/bits.deBruijn64tab"], apart := false, laid := [("math/bits.deBruijn32tab", laid_math_bits_deBruijn32tab), ("math/bits.deBruijn64tab", laid_math_bits_deBruijn64tab)], narrowed := true }
def FamilyPricesUptoSaid : Prop := familyPricesUptoRow.holds Tryd.pinned (OpenSpec.upto familyPricesSpec)

/-- 'mandrellaw08.FamilyProved', WHERE WHAT IT READS IS OF BULK AT MOST 1048576: true; the input reads as it did. -/
def familyProvedUptoRow : OpenClaim := { program := "ytggcooplhodocaadoor", sum := "89a0d5239d2a23fbc10dc93074d4e63292c38ffba3e69238f655bec3ae5b297a", func := "mandrel/mandrellaw08.FamilyProved", spec := "familyProved", unfollowed := true, recurses := true, named := ["math/bits.deBruijn32tab", "math/bits.deBruijn64tab"], apart := false, laid := [("math/bits.deBruijn32tab", laid_math_bits_deBruijn32tab), ("math/bits.deBruijn64tab", laid_math_bits_deBruijn64tab)], narrowed := true }
def FamilyProvedUptoSaid : Prop := familyProvedUptoRow.holds Tryd.pinned (OpenSpec.upto familyProvedSpec)

/-- 'mandrellaw08.FamilyLost', WHERE WHAT IT READS IS OF BULK AT MOST 1048576: true; the input reads as it did. -/
def familyLostUptoRow : OpenClaim := { program := "ytggcooplhodocaadoor", sum := "89a0d5239d2a23fbc10dc93074d4e63292c38ffba3e69238f655bec3ae5b297a", func := "mandrel/mandrellaw08.FamilyLost", spec := "familyLost", unfollowed := true, recurses := true, named := ["math/bits.deBruijn32tab", "math/bits.deBruijn64tab"], apart := false, laid := [("math/bits.deBruijn32tab", laid_math_bits_deBruijn32tab), ("math/bits.deBruijn64tab", laid_math_bits_deBruijn64tab)], narrowed := true }
def FamilyLostUptoSaid : Prop := familyLostUptoRow.holds Tryd.pinned (OpenSpec.upto familyLostSpec)

/-- 'mandrellaw08.FamilyMore', WHERE WHAT IT READS IS OF BULK AT MOST 1048576: true; the input reads as it did. -/
def familyMoreUptoRow : OpenClaim := { program := "ytggcooplhodocaadoor", sum := "89a0d5239d2a23fbc10dc93074d4e63292c38ffba3e69238f655bec3ae5b297a", func := "mandrel/mandrellaw08.FamilyMore", spec := "familyMore", unfollowed := true, recurses := true, named := ["math/bits.deBruijn32tab", "math/bits.deBruijn64tab"], apart := false, laid := [("math/bits.deBruijn32tab", laid_math_bits_deBruijn32tab), ("math/bits.deBruijn64tab", laid_math_bits_deBruijn64tab)], narrowed := true }
def FamilyMoreUptoSaid : Prop := familyMoreUptoRow.holds Tryd.pinned (OpenSpec.upto familyMoreSpec)

/-- 'mandrellaw08.FamilyGraded', WHERE WHAT IT READS IS OF BULK AT MOST 1048576: true; the input reads as it did. -/
def familyGradedUptoRow : OpenClaim := { program := "ytggcooplhodocaadoor", sum := "89a0d5239d2a23fbc10dc93074d4e63292c38ffba3e69238f655bec3ae5b297a", func := "mandrel/mandrellaw08.FamilyGraded", spec := "familyGraded", unfollowed := true, recurses := true, named := ["math/bits.deBruijn32tab", "math/bits.deBruijn64tab"], apart := false, laid := [("math/bits.deBruijn32tab", laid_math_bits_deBruijn32tab), ("math/bits.deBruijn64tab", laid_math_bits_deBruijn64tab)], narrowed := true }
def FamilyGradedUptoSaid : Prop := familyGradedUptoRow.holds Tryd.pinned (OpenSpec.upto familyGradedSpec)

/-- 'mandrellaw08.FamilyLargest', WHERE WHAT IT READS IS OF BULK AT MOST 1048576: true; the input reads as it did. -/
def familyLargestUptoRow : OpenClaim := { program := "ytggcooplhodocaadoor", sum := "89a0d5239d2a23fbc10dc93074d4e63292c38ffba3e69238f655bec3ae5b297a", func := "mandrel/mandrellaw08.FamilyLargest", spec := "familyLargest", unfollowed := true, recurses := true, named := ["math/bits.deBruijn32tab", "math/bits.deBruijn64tab"], apart := false, laid := [("math/bits.deBruijn32tab", laid_math_bits_deBruijn32tab), ("math/bits.deBruijn64tab", laid_math_bits_deBruijn64tab)], narrowed := true }
def FamilyLargestUptoSaid : Prop := familyLargestUptoRow.holds Tryd.pinned (OpenSpec.upto familyLargestSpec)

/-- 'mandrellaw08.FamilyNamed', WHERE WHAT IT READS IS OF BULK AT MOST 1048576: true; the input reads as it did. -/
def familyNamedUptoRow : OpenClaim := { program := "ytggcooplhodocaadoor", sum := "89a0d5239d2a23fbc10dc93074d4e63292c38ffba3e69238f655bec3ae5b297a", func := "mandrel/mandrellaw08.FamilyNamed", spec := "familyNamed", unfollowed := true, recurses := true, named := ["math/bits.deBruijn32tab", "math/bits.deBruijn64tab"], apart := false, laid := [("math/bits.deBruijn32tab", laid_math_bits_deBruijn32tab), ("math/bits.deBruijn64tab", laid_math_bits_deBruijn64tab)], narrowed := true }
def FamilyNamedUptoSaid : Prop := familyNamedUptoRow.holds Tryd.pinned (OpenSpec.upto familyNamedSpec)

/-- 'mandrellaw08.FamilyKnown', WHERE WHAT IT READS IS OF BULK AT MOST 1048576: true; the input reads as it did. -/
def familyKnownUptoRow : OpenClaim := { program := "ytggcooplhodocaadoor", sum := "89a0d5239d2a23fbc10dc93074d4e63292c38ffba3e69238f655bec3ae5b297a", func := "mandrel/mandrellaw08.FamilyKnown", spec := "familyKnown", unfollowed := true, recurses := true, named := ["math/bits.deBruijn32tab", "math/bits.deBruijn64tab"], apart := false, laid := [("math/bits.deBruijn32tab", laid_math_bits_deBruijn32tab), ("math/bits.deBruijn64tab", laid_math_bits_deBruijn64tab)], narrowed := true }
def FamilyKnownUptoSaid : Prop := familyKnownUptoRow.holds Tryd.pinned (OpenSpec.upto familyKnownSpec)

end Rows
end Go.Proofs.YtggcooplhodocaaDoor
