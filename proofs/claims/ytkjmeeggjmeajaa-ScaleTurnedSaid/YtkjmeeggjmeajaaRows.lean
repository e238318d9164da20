/-
  No cell of these rows narrows 'for every input' (looked for: loops, veiled, ifaces, maps, wideKeys, modest, calm, conditions, laid).
  DERIVED. THE GIVEN ROWS OF THIS SEAT. 11 by the template 'for every input the law returns true; each argument reads behind the call as it read before'; 0 by the template 'total and deterministic' (their statements: YtkjmeeggjmeajaaTotals.lean).
  GIVEN WITH THE SEED: the statements are not yours to turn. If you find one false, say at which input.
  Laid BY PROGRAM, IN A SANDBOX (cutbox-rows.mjs): the forced cells as the released guide's own fill.sh prints them over the translation 7a554587fcb6dd23… (all of the seat's roots in one cut). By AI agents, Wed Nov 11 2026. No macro, syntax, notation, axiom, sorry.
-/
import Derived.Test.YtkjmeeggjmeajaaChecked
import GoSem.Claim
import GoSem.ClaimJoined
import GoSem.ClaimMapViews
import Derived.JoinedTies
import Derived.KernelRfl
namespace Go.Proofs.Ytkjmeeggjmeajaa
/- THE CELL 'sum', in the pinned program and in every row, IS THE sha256 OF THE DUMP (.gsa) THAT YtkjmeeggjmeajaaProg.lean LOADS. Nothing in Lean hashes anything: it is a label: what it is worth is what the hold of that sum in a sandbox is worth. -/
noncomputable def Try.pinned : Pinned := { name := "ytkjmeeggjmeajaa", sum := "7a554587fcb6dd23f971e90da71bf325bac65b2e3e34bf82f017e31ddac11ddd", checked := Try.checked }
namespace Rows
def none {H : Type} : Left H := { results := [], args := [] }

/-- 'mandrellaw03.ScaleTones': WHATEVER THE INPUT: true; the input reads as it did. -/
def scaleTonesSpec : ChangeSpec := { name := "scaleTones", fn := fun _ => fun
  | [d1, d2] => { results := [.lit (.bool true)], args := [d1, d2] }
  | _ => none }
def scaleTonesRow : OpenClaim := { program := "ytkjmeeggjmeajaa", sum := "7a554587fcb6dd23f971e90da71bf325bac65b2e3e34bf82f017e31ddac11ddd", func := "mandrel/mandrellaw03.ScaleTones", spec := "scaleTones", unfollowed := true, recurses := true, plainKeys := false, apart := false }
def ScaleTonesSaid : Prop := scaleTonesRow.holds Try.pinned (OpenSpec.ofChange scaleTonesSpec)

/-- ITS FALSE NEIGHBOUR: 'it returns false'. Refute it at one input. -/
def scaleTonesWrong : ChangeSpec := { name := "scaleTones", fn := fun _ => fun
  | [d1, d2] => { results := [.lit (.bool false)], args := [d1, d2] }
  | _ => none }
def ScaleTonesWrongFalsely : Prop := scaleTonesRow.holds Try.pinned (OpenSpec.ofChange scaleTonesWrong)

/-- 'mandrellaw03.ScaleSpans': WHATEVER THE INPUT: true; the input reads as it did. -/
def scaleSpansSpec : ChangeSpec := { name := "scaleSpans", fn := fun _ => fun
  | [d1, d2, d3] => { results := [.lit (.bool true)], args := [d1, d2, d3] }
  | _ => none }
def scaleSpansRow : OpenClaim := { program := "ytkjmeeggjmeajaa", sum := "7a554587fcb6dd23f971e90da71bf325bac65b2e3e34bf82f017e31ddac11ddd", func := "mandrel/mandrellaw03.ScaleSpans", spec := "scaleSpans", unfollowed := true, recurses := true, plainKeys := false, apart := false }
def ScaleSpansSaid : Prop := scaleSpansRow.holds Try.pinned (OpenSpec.ofChange scaleSpansSpec)

/-- ITS FALSE NEIGHBOUR: 'it returns false'. Refute it at one input. -/
def scaleSpansWrong : ChangeSpec := { name := "scaleSpans", fn := fun _ => fun
  | [d1, d2, d3] => { results := [.lit (.bool false)], args := [d1, d2, d3] }
  | _ => none }
def ScaleSpansWrongFalsely : Prop := scaleSpansRow.holds Try.pinned (OpenSpec.ofChange scaleSpansWrong)

/-- 'mandrellaw03.ScaleMosts': WHATEVER THE INPUT: true; the input reads as it did. -/
def scaleMostsSpec : ChangeSpec := { name := "scaleMosts", fn := fun _ => fun
  | [d1, d2] => { results := [.lit (.bool true)], args := [d1, d2] }
  | _ => none }
def scaleMostsRow : OpenClaim := { program := "ytkjmeeggjmeajaa", sum := "7a554587fcb6dd23f971e90da71bf325bac65b2e3e34bf82f017e31ddac11ddd", func := "mandrel/mandrellaw03.ScaleMosts", spec := "scaleMosts", unfollowed := true, recurses := true, plainKeys := false, apart := false }
def ScaleMostsSaid : Prop := scaleMostsRow.holds Try.pinned (OpenSpec.ofChange scaleMostsSpec)

/-- ITS FALSE NEIGHBOUR: 'it returns false'. Refute it at one input. -/
def scaleMostsWrong : ChangeSpec := { name := "scaleMosts", fn := fun _ => fun
  | [d1, d2] => { results := [.lit (.bool false)], args := [d1, d2] }
  | _ => none }
def ScaleMostsWrongFalsely : Prop := scaleMostsRow.holds Try.pinned (OpenSpec.ofChange scaleMostsWrong)

/-- 'mandrellaw03.ScaleSpanned': WHATEVER THE INPUT: true; the input reads as it did. -/
def scaleSpannedSpec : ChangeSpec := { name := "scaleSpanned", fn := fun _ => fun
  | [d1, d2, d3] => { results := [.lit (.bool true)], args := [d1, d2, d3] }
  | _ => none }
def scaleSpannedRow : OpenClaim := { program := "ytkjmeeggjmeajaa", sum := "7a554587fcb6dd23f971e90da71bf325bac65b2e3e34bf82f017e31ddac11ddd", func := "mandrel/mandrellaw03.ScaleSpanned", spec := "scaleSpanned", unfollowed := true, recurses := true, plainKeys := false, apart := false }
def ScaleSpannedSaid : Prop := scaleSpannedRow.holds Try.pinned (OpenSpec.ofChange scaleSpannedSpec)

/-- ITS FALSE NEIGHBOUR: 'it returns false'. Refute it at one input. -/
def scaleSpannedWrong : ChangeSpec := { name := "scaleSpanned", fn := fun _ => fun
  | [d1, d2, d3] => { results := [.lit (.bool false)], args := [d1, d2, d3] }
  | _ => none }
def ScaleSpannedWrongFalsely : Prop := scaleSpannedRow.holds Try.pinned (OpenSpec.ofChange scaleSpannedWrong)

/-- 'mandrellaw03.ScaleNarrower': WHATEVER THE INPUT: true; the input reads as it did. -/
def scaleNarrowerSpec : ChangeSpec := { name := "scaleNarrower", fn := fun _ => fun
  | [d1, d2, d3, d4] => { results := [.lit (.bool true)], args := [d1, d2, d3, d4] }
  | _ => none }
def scaleNarrowerRow : OpenClaim := { program := "ytkjmeeggjmeajaa", sum := "7a554587fcb6dd23f971e90da71bf325bac65b2e3e34bf82f017e31ddac11ddd", func := "mandrel/mandrellaw03.ScaleNarrower", spec := "scaleNarrower", unfollowed := true, recurses := true, plainKeys := false, apart := false }
def ScaleNarrowerSaid : Prop := scaleNarrowerRow.holds Try.pinned (OpenSpec.ofChange scaleNarrowerSpec)

/-- ITS FALSE NEIGHBOUR: 'it returns false'. Refute it at one input. -/
def scaleNarrowerWrong : ChangeSpec := { name := "scaleNarrower", fn := fun _ => fun
  | [d1, d2, d3, d4] => { results := [.lit (.bool false)], args := [d1, d2, d3, d4] }
  | _ => none }
def ScaleNarrowerWrongFalsely : Prop := scaleNarrowerRow.holds Try.pinned (OpenSpec.ofChange scaleNarrowerWrong)

/-- 'mandrellaw03.ScaleTurned': WHATEVER THE INPUT: true; the input reads as it did. -/
def scaleTurnedSpec : ChangeSpec := { name := "scaleTurned", fn := fun _ => fun
  | [d1, d2, d3] => { results := [.lit (.bool true)], args := [d1, d2, d3] }
  | _ => none }
def scaleTurnedRow : OpenClaim := { program := "ytkjmeeggjmeajaa", sum := "7a554587fcb6dd23f971e90da71bf325bac65b2e3e34bf82f017e31ddac11ddd", func := "mandrel/mandrellaw03.ScaleTurned", spec := "scaleTurned", unfollowed := true, recurses := true, plainKeys := false, apart := false }
def ScaleTurnedSaid : Prop := scaleTurnedRow.holds Try.pinned (OpenSpec.ofChange scaleTurnedSpec)

/-- ITS FALSE NEIGHBOUR: 'it returns false'. Refute it at one input. -/
def scaleTurnedWrong : ChangeSpec := { name := "scaleTurned", fn := fun _ => fun
  | [d1, d2, d3] => { results := [.lit (.bool false)], args := [d1, d2, d3] }
  | _ => none }
def ScaleTurnedWrongFalsely : Prop := scaleTurnedRow.holds Try.pinned (OpenSpec.ofChange scaleTurnedWrong)

/-- 'mandrellaw03.ScaleShared': WHATEVER THE INPUT: true; the input reads as it did. -/
def scaleSharedSpec : ChangeSpec := { name := "scaleShared", fn := fun _ => fun
  | [d1, d2, d3, d4] => { results := [.lit (.bool true)], args := [d1, d2, d3, d4] }
  | _ => none }
def scaleSharedRow : OpenClaim := { program := "ytkjmeeggjmeajaa", sum := "7a554587fcb6dd23f971e90da71bf325bac65b2e3e34bf82f017e31ddac11ddd", func := "mandrel/mandrellaw03.ScaleShared", spec := "scaleShared", unfollowed := true, recurses := true, plainKeys := false, apart := false }
def ScaleSharedSaid : Prop := scaleSharedRow.holds Try.pinned (OpenSpec.ofChange scaleSharedSpec)

/-- ITS FALSE NEIGHBOUR: 'it returns false'. Refute it at one input. -/
def scaleSharedWrong : ChangeSpec := { name := "scaleShared", fn := fun _ => fun
  | [d1, d2, d3, d4] => { results := [.lit (.bool false)], args := [d1, d2, d3, d4] }
  | _ => none }
def ScaleSharedWrongFalsely : Prop := scaleSharedRow.holds Try.pinned (OpenSpec.ofChange scaleSharedWrong)

/-- 'mandrellaw03.ScaleKept': WHATEVER THE INPUT: true; the input reads as it did. -/
def scaleKeptSpec : ChangeSpec := { name := "scaleKept", fn := fun _ => fun
  | [d1, d2, d3] => { results := [.lit (.bool true)], args := [d1, d2, d3] }
  | _ => none }
def scaleKeptRow : OpenClaim := { program := "ytkjmeeggjmeajaa", sum := "7a554587fcb6dd23f971e90da71bf325bac65b2e3e34bf82f017e31ddac11ddd", func := "mandrel/mandrellaw03.ScaleKept", spec := "scaleKept", unfollowed := true, recurses := true, plainKeys := false, apart := false }
def ScaleKeptSaid : Prop := scaleKeptRow.holds Try.pinned (OpenSpec.ofChange scaleKeptSpec)

/-- ITS FALSE NEIGHBOUR: 'it returns false'. Refute it at one input. -/
def scaleKeptWrong : ChangeSpec := { name := "scaleKept", fn := fun _ => fun
  | [d1, d2, d3] => { results := [.lit (.bool false)], args := [d1, d2, d3] }
  | _ => none }
def ScaleKeptWrongFalsely : Prop := scaleKeptRow.holds Try.pinned (OpenSpec.ofChange scaleKeptWrong)

/-- 'mandrellaw03.ScaleProofs': WHATEVER THE INPUT: true; the input reads as it did. -/
def scaleProofsSpec : ChangeSpec := { name := "scaleProofs", fn := fun _ => fun
  | [d1, d2] => { results := [.lit (.bool true)], args := [d1, d2] }
  | _ => none }
def scaleProofsRow : OpenClaim := { program := "ytkjmeeggjmeajaa", sum := "7a554587fcb6dd23f971e90da71bf325bac65b2e3e34bf82f017e31ddac11ddd", func := "mandrel/mandrellaw03.ScaleProofs", spec := "scaleProofs", unfollowed := true, recurses := true, plainKeys := false, apart := false }
def ScaleProofsSaid : Prop := scaleProofsRow.holds Try.pinned (OpenSpec.ofChange scaleProofsSpec)

/-- ITS FALSE NEIGHBOUR: 'it returns false'. Refute it at one input. -/
def scaleProofsWrong : ChangeSpec := { name := "scaleProofs", fn := fun _ => fun
  | [d1, d2] => { results := [.lit (.bool false)], args := [d1, d2] }
  | _ => none }
def ScaleProofsWrongFalsely : Prop := scaleProofsRow.holds Try.pinned (OpenSpec.ofChange scaleProofsWrong)

/-- 'mandrellaw03.ScaleProved': WHATEVER THE INPUT: true; the input reads as it did. -/
def scaleProvedSpec : ChangeSpec := { name := "scaleProved", fn := fun _ => fun
  | [d1, d2, d3, d4] => { results := [.lit (.bool true)], args := [d1, d2, d3, d4] }
  | _ => none }
def scaleProvedRow : OpenClaim := { program := "ytkjmeeggjmeajaa", sum := "7a554587fcb6dd23f971e90da71bf325bac65b2e3e34bf82f017e31ddac11ddd", func := "mandrel/mandrellaw03.ScaleProved", spec := "scaleProved", unfollowed := true, recurses := true, plainKeys := false, apart := false }
def ScaleProvedSaid : Prop := scaleProvedRow.holds Try.pinned (OpenSpec.ofChange scaleProvedSpec)

/-- ITS FALSE NEIGHBOUR: 'it returns false'. Refute it at one input. -/
def scaleProvedWrong : ChangeSpec := { name := "scaleProved", fn := fun _ => fun
  | [d1, d2, d3, d4] => { results := [.lit (.bool false)], args := [d1, d2, d3, d4] }
  | _ => none }
def ScaleProvedWrongFalsely : Prop := scaleProvedRow.holds Try.pinned (OpenSpec.ofChange scaleProvedWrong)

/-- 'mandrellaw03.ScaleKnown': WHATEVER THE INPUT: true; the input reads as it did. -/
def scaleKnownSpec : ChangeSpec := { name := "scaleKnown", fn := fun _ => fun
  | [] => { results := [.lit (.bool true)], args := [] }
  | _ => none }
def scaleKnownRow : OpenClaim := { program := "ytkjmeeggjmeajaa", sum := "7a554587fcb6dd23f971e90da71bf325bac65b2e3e34bf82f017e31ddac11ddd", func := "mandrel/mandrellaw03.ScaleKnown", spec := "scaleKnown", unfollowed := true, recurses := true, plainKeys := false, apart := false }
def ScaleKnownSaid : Prop := scaleKnownRow.holds Try.pinned (OpenSpec.ofChange scaleKnownSpec)

/-- ITS FALSE NEIGHBOUR: 'it returns false'. Refute it at one input. -/
def scaleKnownWrong : ChangeSpec := { name := "scaleKnown", fn := fun _ => fun
  | [] => { results := [.lit (.bool false)], args := [] }
  | _ => none }
def ScaleKnownWrongFalsely : Prop := scaleKnownRow.holds Try.pinned (OpenSpec.ofChange scaleKnownWrong)

/- THE SECOND FORM. 'bulk': how many values and letters a reading holds, each counted each time it is reached (what is shared counts as often as it is met; a slice's spare places count too). A statement '..UptoSaid' is the law's where the arguments, and the package variables that the reading takes, are together of bulk at most 1048576: NARROWER than '..Said'. Prove '..Said' where nothing that the law and all that it calls make is longer than what came in: it says more and counts as full. Else prove '..UptoSaid'. A law counts once. -/
mutual
def uptoBulk {H : Type} : DataW H → Nat
  | .lit (.string bytes) => bytes.length + 1
  | .lit _ => 1
  | .nil => 1
  | .ptr d => uptoBulk d + 1
  | .slice elems spare => uptoBulkAll elems + uptoBulkAll spare + 1
  | .agg parts => uptoBulkAll parts + 1
  | .iface _ d => uptoBulk d + 1
  | .map entries => uptoBulkEntries entries + 1
  | .held _ => 1
def uptoBulkAll {H : Type} : List (DataW H) → Nat
  | [] => 0
  | d :: r => uptoBulk d + uptoBulkAll r
def uptoBulkEntries {H : Type} : List (Lit × DataW H) → Nat
  | [] => 0
  | x :: r => uptoBulkEntry x + uptoBulkEntries r
def uptoBulkEntry {H : Type} : Lit × DataW H → Nat
  | (.string bytes, d) => bytes.length + uptoBulk d + 1
  | (_, d) => uptoBulk d + 1
 end
def uptoSmall : (H : Type) → List (DataW H) → Bool := fun _ ds => decide (uptoBulkAll ds ≤ 1048576)
def OpenSpec.upto (s : _root_.Go.ChangeSpec) : _root_.Go.OpenSpec := { _root_.Go.OpenSpec.ofChange s with cond := some uptoSmall }

/-- 'mandrellaw03.ScaleTones', WHERE WHAT IT READS IS OF BULK AT MOST 1048576: true; the input reads as it did. -/
def scaleTonesUptoRow : OpenClaim := { program := "ytkjmeeggjmeajaa", sum := "7a554587fcb6dd23f971e90da71bf325bac65b2e3e34bf82f017e31ddac11ddd", func := "mandrel/mandrellaw03.ScaleTones", spec := "scaleTones", unfollowed := true, recurses := true, plainKeys := false, apart := false, narrowed := true }
def ScaleTonesUptoSaid : Prop := scaleTonesUptoRow.holds Try.pinned (OpenSpec.upto scaleTonesSpec)

/-- 'mandrellaw03.ScaleSpans', WHERE WHAT IT READS IS OF BULK AT MOST 1048576: true; the input reads as it did. -/
def scaleSpansUptoRow : OpenClaim := { program := "ytkjmeeggjmeajaa", sum := "7a554587fcb6dd23f971e90da71bf325bac65b2e3e34bf82f017e31ddac11ddd", func := "mandrel/mandrellaw03.ScaleSpans", spec := "scaleSpans", unfollowed := true, recurses := true, plainKeys := false, apart := false, narrowed := true }
def ScaleSpansUptoSaid : Prop := scaleSpansUptoRow.holds Try.pinned (OpenSpec.upto scaleSpansSpec)

/-- 'mandrellaw03.ScaleMosts', WHERE WHAT IT READS IS OF BULK AT MOST 1048576: true; the input reads as it did. -/
def scaleMostsUptoRow : OpenClaim := { program := "ytkjmeeggjmeajaa", sum := "7a554587fcb6dd23f971e90da71bf325bac65b2e3e34bf82f017e31ddac11ddd", func := "mandrel/mandrellaw03.ScaleMosts", spec := "scaleMosts", unfollowed := true, recurses := true, plainKeys := false, apart := false, narrowed := true }
def ScaleMostsUptoSaid : Prop := scaleMostsUptoRow.holds Try.pinned (OpenSpec.upto scaleMostsSpec)

/-- 'mandrellaw03.ScaleSpanned', WHERE WHAT IT READS IS OF BULK AT MOST 1048576: true; the input reads as it did. -/
def scaleSpannedUptoRow : OpenClaim := { program := "ytkjmeeggjmeajaa", sum := "7a554587fcb6dd23f971e90da71bf325bac65b2e3e34bf82f017e31ddac11ddd", func := "mandrel/mandrellaw03.ScaleSpanned", spec := "scaleSpanned", unfollowed := true, recurses := true, plainKeys := false, apart := false, narrowed := true }
def ScaleSpannedUptoSaid : Prop := scaleSpannedUptoRow.holds Try.pinned (OpenSpec.upto scaleSpannedSpec)

/-- 'mandrellaw03.ScaleNarrower', WHERE WHAT IT READS IS OF BULK AT MOST 1048576: true; the input reads as it did. -/
def scaleNarrowerUptoRow : OpenClaim := { program := "ytkjmeeggjmeajaa", sum := "7a554587fcb6dd23f971e90da71bf325bac65b2e3e34bf82f017e31ddac11ddd", func := "mandrel/mandrellaw03.ScaleNarrower", spec := "scaleNarrower", unfollowed := true, recurses := true, plainKeys := false, apart := false, narrowed := true }
def ScaleNarrowerUptoSaid : Prop := scaleNarrowerUptoRow.holds Try.pinned (OpenSpec.upto scaleNarrowerSpec)

/-- 'mandrellaw03.ScaleTurned', WHERE WHAT IT READS IS OF BULK AT MOST 1048576: true; the input reads as it did. -/
def scaleTurnedUptoRow : OpenClaim := { program := "ytkjmeeggjmeajaa", sum := "7a554587fcb6dd23f971e90da71bf325bac65b2e3e34bf82f017e31ddac11ddd", func := "mandrel/mandrellaw03.ScaleTurned", spec := "scaleTurned", unfollowed := true, recurses := true, plainKeys := false, apart := false, narrowed := true }
def ScaleTurnedUptoSaid : Prop := scaleTurnedUptoRow.holds Try.pinned (OpenSpec.upto scaleTurnedSpec)

/-- 'mandrellaw03.ScaleShared', WHERE WHAT IT READS IS OF BULK AT MOST 1048576: true; the input reads as it did. -/
def scaleSharedUptoRow : OpenClaim := { program := "ytkjmeeggjmeajaa", sum := "7a554587fcb6dd23f971e90da71bf325bac65b2e3e34bf82f017e31ddac11ddd", func := "mandrel/mandrellaw03.ScaleShared", spec := "scaleShared", unfollowed := true, recurses := true, plainKeys := false, apart := false, narrowed := true }
def ScaleSharedUptoSaid : Prop := scaleSharedUptoRow.holds Try.pinned (OpenSpec.upto scaleSharedSpec)

/-- 'mandrellaw03.ScaleKept', WHERE WHAT IT READS IS OF BULK AT MOST 1048576: true; the input reads as it did. -/
def scaleKeptUptoRow : OpenClaim := { program := "ytkjmeeggjmeajaa", sum := "7a554587fcb6dd23f971e90da71bf325bac65b2e3e34bf82f017e31ddac11ddd", func := "mandrel/mandrellaw03.ScaleKept", spec := "scaleKept", unfollowed := true, recurses := true, plainKeys := false, apart := false, narrowed := true }
def ScaleKeptUptoSaid : Prop := scaleKeptUptoRow.holds Try.pinned (OpenSpec.upto scaleKeptSpec)

/-- 'mandrellaw03.ScaleProofs', WHERE WHAT IT READS IS OF BULK AT MOST 1048576: true; the input reads as it did. -/
def scaleProofsUptoRow : OpenClaim := { program := "ytkjmeeggjmeajaa", sum := "7a554587fcb6dd23f971e90da71bf325bac65b2e3e34bf82f017e31ddac11ddd", func := "mandrel/mandrellaw03.ScaleProofs", spec := "scaleProofs", unfollowed := true, recurses := true, plainKeys := false, apart := false, narrowed := true }
def ScaleProofsUptoSaid : Prop := scaleProofsUptoRow.holds Try.pinned (OpenSpec.upto scaleProofsSpec)

/-- 'mandrellaw03.ScaleProved', WHERE WHAT IT READS IS OF BULK AT MOST 1048576: true; the input reads as it did. -/
def scaleProvedUptoRow : OpenClaim := { program := "ytkjmeeggjmeajaa", sum := "7a554587fcb6dd23f971e90da71bf325bac65b2e3e34bf82f017e31ddac11ddd", func := "mandrel/mandrellaw03.ScaleProved", spec := "scaleProved", unfollowed := true, recurses := true, plainKeys := false, apart := false, narrowed := true }
def ScaleProvedUptoSaid : Prop := scaleProvedUptoRow.holds Try.pinned (OpenSpec.upto scaleProvedSpec)

/-- 'mandrellaw03.ScaleKnown', WHERE WHAT IT READS IS OF BULK AT MOST 1048576: true; the input reads as it did. -/
def scaleKnownUptoRow : OpenClaim := { program := "ytkjmeeggjmeajaa", sum := "7a554587fcb6dd23f971e90da71bf325bac65b2e3e34bf82f017e31ddac11ddd", func := "mandrel/mandrellaw03.ScaleKnown", spec := "scaleKnown", unfollowed := true, recurses := true, plainKeys := false, apart := false, narrowed := true }
def ScaleKnownUptoSaid : Prop := scaleKnownUptoRow.holds Try.pinned (OpenSpec.upto scaleKnownSpec)

end Rows
end Go.Proofs.Ytkjmeeggjmeajaa
