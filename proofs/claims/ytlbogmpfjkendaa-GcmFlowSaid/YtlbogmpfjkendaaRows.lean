/-
  No cell of these rows narrows 'for every input' (looked for: loops, veiled, ifaces, maps, wideKeys, modest, calm, conditions, laid).
  DERIVED. THE GIVEN ROWS OF THIS SEAT. 6 by the template 'for every input the law returns true; each argument reads behind the call as it read before'; 0 by the template 'total and deterministic' (their statements: YtlbogmpfjkendaaTotals.lean).
  GIVEN WITH THE SEED: the statements are not yours to turn. If you find one false, say at which input.
  Laid BY PROGRAM, IN A SANDBOX (cutbox-rows.mjs): the forced cells as the released guide's own fill.sh prints them over the translation 4b23745b25e04c94… (all of the seat's roots in one cut). By AI agents, Wed Nov 11 2026. No macro, syntax, notation, axiom, sorry.
-/
import Derived.Test.YtlbogmpfjkendaaChecked
import GoSem.Claim
import GoSem.ClaimJoined
import GoSem.ClaimMapViews
import Derived.JoinedTies
import Derived.KernelRfl
namespace Go.Proofs.Ytlbogmpfjkendaa
/- THE CELL 'sum', in the pinned program and in every row, IS THE sha256 OF THE DUMP (.gsa) THAT YtlbogmpfjkendaaProg.lean LOADS. Nothing in Lean hashes anything: it is a label: what it is worth is what the hold of that sum in a sandbox is worth. -/
noncomputable def Try.pinned : Pinned := { name := "ytlbogmpfjkendaa", sum := "4b23745b25e04c9434edfe47a4ab07589e7954b8e063b12a465f9ba4d0988861", checked := Try.checked }
namespace Rows
def none {H : Type} : Left H := { results := [], args := [] }

/-- 'lockboxlaw5.GcmSeals': WHATEVER THE INPUT: true; the input reads as it did. -/
def gcmSealsSpec : ChangeSpec := { name := "gcmSeals", fn := fun _ => fun
  | [d1, d2, d3, d4] => { results := [.lit (.bool true)], args := [d1, d2, d3, d4] }
  | _ => none }
def gcmSealsRow : OpenClaim := { program := "ytlbogmpfjkendaa", sum := "4b23745b25e04c9434edfe47a4ab07589e7954b8e063b12a465f9ba4d0988861", func := "lockbox/lockboxlaw5.GcmSeals", spec := "gcmSeals", apart := false }
def GcmSealsSaid : Prop := gcmSealsRow.holds Try.pinned (OpenSpec.ofChange gcmSealsSpec)

/-- ITS FALSE NEIGHBOUR: 'it returns false'. Refute it at one input. -/
def gcmSealsWrong : ChangeSpec := { name := "gcmSeals", fn := fun _ => fun
  | [d1, d2, d3, d4] => { results := [.lit (.bool false)], args := [d1, d2, d3, d4] }
  | _ => none }
def GcmSealsWrongFalsely : Prop := gcmSealsRow.holds Try.pinned (OpenSpec.ofChange gcmSealsWrong)

/-- 'lockboxlaw5.GcmBack': WHATEVER THE INPUT: true; the input reads as it did. -/
def gcmBackSpec : ChangeSpec := { name := "gcmBack", fn := fun _ => fun
  | [d1, d2, d3, d4] => { results := [.lit (.bool true)], args := [d1, d2, d3, d4] }
  | _ => none }
def gcmBackRow : OpenClaim := { program := "ytlbogmpfjkendaa", sum := "4b23745b25e04c9434edfe47a4ab07589e7954b8e063b12a465f9ba4d0988861", func := "lockbox/lockboxlaw5.GcmBack", spec := "gcmBack", apart := false }
def GcmBackSaid : Prop := gcmBackRow.holds Try.pinned (OpenSpec.ofChange gcmBackSpec)

/-- ITS FALSE NEIGHBOUR: 'it returns false'. Refute it at one input. -/
def gcmBackWrong : ChangeSpec := { name := "gcmBack", fn := fun _ => fun
  | [d1, d2, d3, d4] => { results := [.lit (.bool false)], args := [d1, d2, d3, d4] }
  | _ => none }
def GcmBackWrongFalsely : Prop := gcmBackRow.holds Try.pinned (OpenSpec.ofChange gcmBackWrong)

/-- 'lockboxlaw5.GcmOpens': WHATEVER THE INPUT: true; the input reads as it did. -/
def gcmOpensSpec : ChangeSpec := { name := "gcmOpens", fn := fun _ => fun
  | [d1, d2, d3, d4] => { results := [.lit (.bool true)], args := [d1, d2, d3, d4] }
  | _ => none }
def gcmOpensRow : OpenClaim := { program := "ytlbogmpfjkendaa", sum := "4b23745b25e04c9434edfe47a4ab07589e7954b8e063b12a465f9ba4d0988861", func := "lockbox/lockboxlaw5.GcmOpens", spec := "gcmOpens", apart := false }
def GcmOpensSaid : Prop := gcmOpensRow.holds Try.pinned (OpenSpec.ofChange gcmOpensSpec)

/-- ITS FALSE NEIGHBOUR: 'it returns false'. Refute it at one input. -/
def gcmOpensWrong : ChangeSpec := { name := "gcmOpens", fn := fun _ => fun
  | [d1, d2, d3, d4] => { results := [.lit (.bool false)], args := [d1, d2, d3, d4] }
  | _ => none }
def GcmOpensWrongFalsely : Prop := gcmOpensRow.holds Try.pinned (OpenSpec.ofChange gcmOpensWrong)

/-- 'lockboxlaw5.GcmTurned': WHATEVER THE INPUT: true; the input reads as it did. -/
def gcmTurnedSpec : ChangeSpec := { name := "gcmTurned", fn := fun _ => fun
  | [d1, d2, d3, d4, d5, d6] => { results := [.lit (.bool true)], args := [d1, d2, d3, d4, d5, d6] }
  | _ => none }
def gcmTurnedRow : OpenClaim := { program := "ytlbogmpfjkendaa", sum := "4b23745b25e04c9434edfe47a4ab07589e7954b8e063b12a465f9ba4d0988861", func := "lockbox/lockboxlaw5.GcmTurned", spec := "gcmTurned", apart := false }
def GcmTurnedSaid : Prop := gcmTurnedRow.holds Try.pinned (OpenSpec.ofChange gcmTurnedSpec)

/-- ITS FALSE NEIGHBOUR: 'it returns false'. Refute it at one input. -/
def gcmTurnedWrong : ChangeSpec := { name := "gcmTurned", fn := fun _ => fun
  | [d1, d2, d3, d4, d5, d6] => { results := [.lit (.bool false)], args := [d1, d2, d3, d4, d5, d6] }
  | _ => none }
def GcmTurnedWrongFalsely : Prop := gcmTurnedRow.holds Try.pinned (OpenSpec.ofChange gcmTurnedWrong)

/-- 'lockboxlaw5.GcmLong': WHATEVER THE INPUT: true; the input reads as it did. -/
def gcmLongSpec : ChangeSpec := { name := "gcmLong", fn := fun _ => fun
  | [d1, d2] => { results := [.lit (.bool true)], args := [d1, d2] }
  | _ => none }
def gcmLongRow : OpenClaim := { program := "ytlbogmpfjkendaa", sum := "4b23745b25e04c9434edfe47a4ab07589e7954b8e063b12a465f9ba4d0988861", func := "lockbox/lockboxlaw5.GcmLong", spec := "gcmLong", apart := false }
def GcmLongSaid : Prop := gcmLongRow.holds Try.pinned (OpenSpec.ofChange gcmLongSpec)

/-- ITS FALSE NEIGHBOUR: 'it returns false'. Refute it at one input. -/
def gcmLongWrong : ChangeSpec := { name := "gcmLong", fn := fun _ => fun
  | [d1, d2] => { results := [.lit (.bool false)], args := [d1, d2] }
  | _ => none }
def GcmLongWrongFalsely : Prop := gcmLongRow.holds Try.pinned (OpenSpec.ofChange gcmLongWrong)

/-- 'lockboxlaw5.GcmFlow': WHATEVER THE INPUT: true; the input reads as it did. -/
def gcmFlowSpec : ChangeSpec := { name := "gcmFlow", fn := fun _ => fun
  | [d1, d2, d3] => { results := [.lit (.bool true)], args := [d1, d2, d3] }
  | _ => none }
def gcmFlowRow : OpenClaim := { program := "ytlbogmpfjkendaa", sum := "4b23745b25e04c9434edfe47a4ab07589e7954b8e063b12a465f9ba4d0988861", func := "lockbox/lockboxlaw5.GcmFlow", spec := "gcmFlow", apart := false }
def GcmFlowSaid : Prop := gcmFlowRow.holds Try.pinned (OpenSpec.ofChange gcmFlowSpec)

/-- ITS FALSE NEIGHBOUR: 'it returns false'. Refute it at one input. -/
def gcmFlowWrong : ChangeSpec := { name := "gcmFlow", fn := fun _ => fun
  | [d1, d2, d3] => { results := [.lit (.bool false)], args := [d1, d2, d3] }
  | _ => none }
def GcmFlowWrongFalsely : Prop := gcmFlowRow.holds Try.pinned (OpenSpec.ofChange gcmFlowWrong)

/- THE SECOND FORM. 'bulk': how many values and letters a reading holds, each counted each time it is reached (what is shared counts as often as it is met; a slice's spare places count too). A statement '..UptoSaid' is the law's where the arguments, and the package variables that the reading takes, are together of bulk at most 1048576: NARROWER than '..Said'. Prove '..Said' where nothing that the law and all that it calls make is longer than what came in: it says more and counts as full. Else prove '..UptoSaid'. A law counts once. -/
mutual
def uptoBulk {H : Type} : DataW H → Nat
  | .lit (.string bytes) => bytes.length + 1
  | .lit _ => 1
  | .nil => 1
  | .ptr d => uptoBulk d + 1
  | .slice elems spare => uptoBulkAll elems + uptoBulkAll spare + 1
  | .agg parts => uptoBulkAll parts + 1
  | .iface _ d => uptoBulk d + 1
  | .map entries => uptoBulkEntries entries + 1
  | .held _ => 1
def uptoBulkAll {H : Type} : List (DataW H) → Nat
  | [] => 0
  | d :: r => uptoBulk d + uptoBulkAll r
def uptoBulkEntries {H : Type} : List (Lit × DataW H) → Nat
  | [] => 0
  | x :: r => uptoBulkEntry x + uptoBulkEntries r
def uptoBulkEntry {H : Type} : Lit × DataW H → Nat
  | (.string bytes, d) => bytes.length + uptoBulk d + 1
  | (_, d) => uptoBulk d + 1
 end
def uptoSmall : (H : Type) → List (DataW H) → Bool := fun _ ds => decide (uptoBulkAll ds ≤ 1048576)
def OpenSpec.upto (s : _root_.Go.ChangeSpec) : _root_.Go.OpenSpec := { _root_.Go.OpenSpec.ofChange s with cond := some uptoSmall }

/-- 'lockboxlaw5.GcmSeals', WHERE WHAT IT READS IS OF BULK AT MOST 1048576: true; the input reads as it did. -/
def gcmSealsUptoRow : OpenClaim := { program := "ytlbogmpfjkendaa", sum := "4b23745b25e04c9434edfe47a4ab07589e7954b8e063b12a465f9ba4d0988861", func := "lockbox/lockboxlaw5.GcmSeals", spec := "gcmSeals", apart := false, narrowed := true }
def GcmSealsUptoSaid : Prop := gcmSealsUptoRow.holds Try.pinned (OpenSpec.upto gcmSealsSpec)

/-- 'lockboxlaw5.GcmBack', WHERE WHAT IT READS IS OF BULK AT MOST 1048576: true; the input reads as it did. -/
def gcmBackUptoRow : OpenClaim := { program := "ytlbogmpfjkendaa", sum := "4b23745b25e04c9434edfe47a4ab07589e7954b8e063b12a465f9ba4d0988861", func := "lockbox/lockboxlaw5.GcmBack", spec := "gcmBack", apart := false, narrowed := true }
def GcmBackUptoSaid : Prop := gcmBackUptoRow.holds Try.pinned (OpenSpec.upto gcmBackSpec)

/-- 'lockboxlaw5.GcmOpens', WHERE WHAT IT READS IS OF BULK AT MOST 1048576: true; the input reads as it did. -/
def gcmOpensUptoRow : OpenClaim := { program := "ytlbogmpfjkendaa", sum := "4b23745b25e04c9434edfe47a4ab07589e7954b8e063b12a465f9ba4d0988861", func := "lockbox/lockboxlaw5.GcmOpens", spec := "gcmOpens", apart := false, narrowed := true }
def GcmOpensUptoSaid : Prop := gcmOpensUptoRow.holds Try.pinned (OpenSpec.upto gcmOpensSpec)

/-- 'lockboxlaw5.GcmTurned', WHERE WHAT IT READS IS OF BULK AT MOST 1048576: true; the input reads as it did. -/
def gcmTurnedUptoRow : OpenClaim := { program := "ytlbogmpfjkendaa", sum := "4b23745b25e04c9434edfe47a4ab07589e7954b8e063b12a465f9ba4d0988861", func := "lockbox/lockboxlaw5.GcmTurned", spec := "gcmTurned", apart := false, narrowed := true }
def GcmTurnedUptoSaid : Prop := gcmTurnedUptoRow.holds Try.pinned (OpenSpec.upto gcmTurnedSpec)

/-- 'lockboxlaw5.GcmLong', WHERE WHAT IT READS IS OF BULK AT MOST 1048576: true; the input reads as it did. -/
def gcmLongUptoRow : OpenClaim := { program := "ytlbogmpfjkendaa", sum := "4b23745b25e04c9434edfe47a4ab07589e7954b8e063b12a465f9ba4d0988861", func := "lockbox/lockboxlaw5.GcmLong", spec := "gcmLong", apart := false, narrowed := true }
def GcmLongUptoSaid : Prop := gcmLongUptoRow.holds Try.pinned (OpenSpec.upto gcmLongSpec)

/-- 'lockboxlaw5.GcmFlow', WHERE WHAT IT READS IS OF BULK AT MOST 1048576: true; the input reads as it did. -/
def gcmFlowUptoRow : OpenClaim := { program := "ytlbogmpfjkendaa", sum := "4b23745b25e04c9434edfe47a4ab07589e7954b8e063b12a465f9ba4d0988861", func := "lockbox/lockboxlaw5.GcmFlow", spec := "gcmFlow", apart := false, narrowed := true }
def GcmFlowUptoSaid : Prop := gcmFlowUptoRow.holds Try.pinned (OpenSpec.upto gcmFlowSpec)

end Rows
end Go.Proofs.Ytlbogmpfjkendaa
