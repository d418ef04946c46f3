/-
  No cell of these rows narrows 'for every input' (looked for: loops, veiled, ifaces, maps, wideKeys, modest, calm, conditions, laid).
  DERIVED. THE GIVEN ROWS OF THIS SEAT. 5 by the template 'for every input the law returns true; each argument reads behind the call as it read before'; 0 by the template 'total and deterministic' (their statements: YtlijonofcnamgaaTotals.lean).
  GIVEN WITH THE SEED: the statements are not yours to turn. If you find one false, say at which input.
  Laid BY PROGRAM, IN A SANDBOX (cutbox-rows.mjs): the forced cells as the released guide's own fill.sh prints them over the translation ac0d05d6ccb6396f… (all of the seat's roots in one cut). By AI agents, Wed Nov 11 2026. No macro, syntax, notation, axiom, sorry.
-/
import Derived.Test.YtlijonofcnamgaaChecked
import GoSem.Claim
import GoSem.ClaimJoined
import GoSem.ClaimMapViews
import Derived.JoinedTies
import Derived.KernelRfl
namespace Go.Proofs.Ytlijonofcnamgaa
/- THE CELL 'sum', in the pinned program and in every row, IS THE sha256 OF THE DUMP (.gsa) THAT YtlijonofcnamgaaProg.lean LOADS. Nothing in Lean hashes anything: it is a label: what it is worth is what the hold of that sum in a sandbox is worth. -/
noncomputable def Try.pinned : Pinned := { name := "ytlijonofcnamgaa", sum := "ac0d05d6ccb6396f33666001525a650b27612fdb1c547330b46a3572a7782c2f", checked := Try.checked }
namespace Rows
def none {H : Type} : Left H := { results := [], args := [] }

/-- 'lockboxlaw3.FieldMuls': WHATEVER THE INPUT: true; the input reads as it did. -/
def fieldMulsSpec : ChangeSpec := { name := "fieldMuls", fn := fun _ => fun
  | [d1, d2] => { results := [.lit (.bool true)], args := [d1, d2] }
  | _ => none }
def fieldMulsRow : OpenClaim := { program := "ytlijonofcnamgaa", sum := "ac0d05d6ccb6396f33666001525a650b27612fdb1c547330b46a3572a7782c2f", func := "lockbox/lockboxlaw3.FieldMuls", spec := "fieldMuls", apart := false }
def FieldMulsSaid : Prop := fieldMulsRow.holds Try.pinned (OpenSpec.ofChange fieldMulsSpec)

/-- ITS FALSE NEIGHBOUR: 'it returns false'. Refute it at one input. -/
def fieldMulsWrong : ChangeSpec := { name := "fieldMuls", fn := fun _ => fun
  | [d1, d2] => { results := [.lit (.bool false)], args := [d1, d2] }
  | _ => none }
def FieldMulsWrongFalsely : Prop := fieldMulsRow.holds Try.pinned (OpenSpec.ofChange fieldMulsWrong)

/-- 'lockboxlaw3.FieldRules': WHATEVER THE INPUT: true; the input reads as it did. -/
def fieldRulesSpec : ChangeSpec := { name := "fieldRules", fn := fun _ => fun
  | [d1, d2, d3] => { results := [.lit (.bool true)], args := [d1, d2, d3] }
  | _ => none }
def fieldRulesRow : OpenClaim := { program := "ytlijonofcnamgaa", sum := "ac0d05d6ccb6396f33666001525a650b27612fdb1c547330b46a3572a7782c2f", func := "lockbox/lockboxlaw3.FieldRules", spec := "fieldRules", apart := false }
def FieldRulesSaid : Prop := fieldRulesRow.holds Try.pinned (OpenSpec.ofChange fieldRulesSpec)

/-- ITS FALSE NEIGHBOUR: 'it returns false'. Refute it at one input. -/
def fieldRulesWrong : ChangeSpec := { name := "fieldRules", fn := fun _ => fun
  | [d1, d2, d3] => { results := [.lit (.bool false)], args := [d1, d2, d3] }
  | _ => none }
def FieldRulesWrongFalsely : Prop := fieldRulesRow.holds Try.pinned (OpenSpec.ofChange fieldRulesWrong)

/-- 'lockboxlaw3.FieldPowers': WHATEVER THE INPUT: true; the input reads as it did. -/
def fieldPowersSpec : ChangeSpec := { name := "fieldPowers", fn := fun _ => fun
  | [d1, d2] => { results := [.lit (.bool true)], args := [d1, d2] }
  | _ => none }
def fieldPowersRow : OpenClaim := { program := "ytlijonofcnamgaa", sum := "ac0d05d6ccb6396f33666001525a650b27612fdb1c547330b46a3572a7782c2f", func := "lockbox/lockboxlaw3.FieldPowers", spec := "fieldPowers", apart := false }
def FieldPowersSaid : Prop := fieldPowersRow.holds Try.pinned (OpenSpec.ofChange fieldPowersSpec)

/-- ITS FALSE NEIGHBOUR: 'it returns false'. Refute it at one input. -/
def fieldPowersWrong : ChangeSpec := { name := "fieldPowers", fn := fun _ => fun
  | [d1, d2] => { results := [.lit (.bool false)], args := [d1, d2] }
  | _ => none }
def FieldPowersWrongFalsely : Prop := fieldPowersRow.holds Try.pinned (OpenSpec.ofChange fieldPowersWrong)

/-- 'lockboxlaw3.FieldTwice': WHATEVER THE INPUT: true; the input reads as it did. -/
def fieldTwiceSpec : ChangeSpec := { name := "fieldTwice", fn := fun _ => fun
  | [d] => { results := [.lit (.bool true)], args := [d] }
  | _ => none }
def fieldTwiceRow : OpenClaim := { program := "ytlijonofcnamgaa", sum := "ac0d05d6ccb6396f33666001525a650b27612fdb1c547330b46a3572a7782c2f", func := "lockbox/lockboxlaw3.FieldTwice", spec := "fieldTwice", apart := false }
def FieldTwiceSaid : Prop := fieldTwiceRow.holds Try.pinned (OpenSpec.ofChange fieldTwiceSpec)

/-- ITS FALSE NEIGHBOUR: 'it returns false'. Refute it at one input. -/
def fieldTwiceWrong : ChangeSpec := { name := "fieldTwice", fn := fun _ => fun
  | [d] => { results := [.lit (.bool false)], args := [d] }
  | _ => none }
def FieldTwiceWrongFalsely : Prop := fieldTwiceRow.holds Try.pinned (OpenSpec.ofChange fieldTwiceWrong)

/-- 'lockboxlaw3.FieldEval': WHATEVER THE INPUT: true; the input reads as it did. -/
def fieldEvalSpec : ChangeSpec := { name := "fieldEval", fn := fun _ => fun
  | [d1, d2, d3] => { results := [.lit (.bool true)], args := [d1, d2, d3] }
  | _ => none }
def fieldEvalRow : OpenClaim := { program := "ytlijonofcnamgaa", sum := "ac0d05d6ccb6396f33666001525a650b27612fdb1c547330b46a3572a7782c2f", func := "lockbox/lockboxlaw3.FieldEval", spec := "fieldEval", apart := false }
def FieldEvalSaid : Prop := fieldEvalRow.holds Try.pinned (OpenSpec.ofChange fieldEvalSpec)

/-- ITS FALSE NEIGHBOUR: 'it returns false'. Refute it at one input. -/
def fieldEvalWrong : ChangeSpec := { name := "fieldEval", fn := fun _ => fun
  | [d1, d2, d3] => { results := [.lit (.bool false)], args := [d1, d2, d3] }
  | _ => none }
def FieldEvalWrongFalsely : Prop := fieldEvalRow.holds Try.pinned (OpenSpec.ofChange fieldEvalWrong)

/- THE SECOND FORM. 'bulk': how many values and letters a reading holds, each counted each time it is reached (what is shared counts as often as it is met; a slice's spare places count too). A statement '..UptoSaid' is the law's where the arguments, and the package variables that the reading takes, are together of bulk at most 1048576: NARROWER than '..Said'. Prove '..Said' where nothing that the law and all that it calls make is longer than what came in: it says more and counts as full. Else prove '..UptoSaid'. A law counts once. -/
mutual
def uptoBulk {H : Type} : DataW H → Nat
  | .lit (.string bytes) => bytes.length + 1
  | .lit _ => 1
  | .nil => 1
  | .ptr d => uptoBulk d + 1
  | .slice elems spare => uptoBulkAll elems + uptoBulkAll spare + 1
  | .agg parts => uptoBulkAll parts + 1
  | .iface _ d => uptoBulk d + 1
  | .map entries => uptoBulkEntries entries + 1
  | .held _ => 1
def uptoBulkAll {H : Type} : List (DataW H) → Nat
  | [] => 0
  | d :: r => uptoBulk d + uptoBulkAll r
def uptoBulkEntries {H : Type} : List (Lit × DataW H) → Nat
  | [] => 0
  | x :: r => uptoBulkEntry x + uptoBulkEntries r
def uptoBulkEntry {H : Type} : Lit × DataW H → Nat
  | (.string bytes, d) => bytes.length + uptoBulk d + 1
  | (_, d) => uptoBulk d + 1
 end
def uptoSmall : (H : Type) → List (DataW H) → Bool := fun _ ds => decide (uptoBulkAll ds ≤ 1048576)
def OpenSpec.upto (s : _root_.Go.ChangeSpec) : _root_.Go.OpenSpec := { _root_.Go.OpenSpec.ofChange s with cond := some uptoSmall }

/-- 'lockboxlaw3.FieldMuls', WHERE WHAT IT READS IS OF BULK AT MOST 1048576: true; the input reads as it did. -/
def fieldMulsUptoRow : OpenClaim := { program := "ytlijonofcnamgaa", sum := "ac0d05d6ccb6396f33666001525a650b27612fdb1c547330b46a3572a7782c2f", func := "lockbox/lockboxlaw3.FieldMuls", spec := "fieldMuls", apart := false, narrowed := true }
def FieldMulsUptoSaid : Prop := fieldMulsUptoRow.holds Try.pinned (OpenSpec.upto fieldMulsSpec)

/-- 'lockboxlaw3.FieldRules', WHERE WHAT IT READS IS OF BULK AT MOST 1048576: true; the input reads as it did. -/
def fieldRulesUptoRow : OpenClaim := { program := "ytlijonofcnamgaa", sum := "ac0d05d6ccb6396f33666001525a650b27612fdb1c547330b46a3572a7782c2f", func := "lockbox/lockboxlaw3.FieldRules", spec := "fieldRules", apart := false, narrowed := true }
def FieldRulesUptoSaid : Prop := fieldRulesUptoRow.holds Try.pinned (OpenSpec.upto fieldRulesSpec)

/-- 'lockboxlaw3.FieldPowers', WHERE WHAT IT READS IS OF BULK AT MOST 1048576: true; the input reads as it did. -/
def fieldPowersUptoRow : OpenClaim := { program := "ytlijonofcnamgaa", sum := "ac0d05d6ccb6396f33666001525a650b27612fdb1c547330b46a3572a7782c2f", func := "lockbox/lockboxlaw3.FieldPowers", spec := "fieldPowers", apart := false, narrowed := true }
def FieldPowersUptoSaid : Prop := fieldPowersUptoRow.holds Try.pinned (OpenSpec.upto fieldPowersSpec)

/-- 'lockboxlaw3.FieldTwice', WHERE WHAT IT READS IS OF BULK AT MOST 1048576: true; the input reads as it did. -/
def fieldTwiceUptoRow : OpenClaim := { program := "ytlijonofcnamgaa", sum := "ac0d05d6ccb6396f33666001525a650b27612fdb1c547330b46a3572a7782c2f", func := "lockbox/lockboxlaw3.FieldTwice", spec := "fieldTwice", apart := false, narrowed := true }
def FieldTwiceUptoSaid : Prop := fieldTwiceUptoRow.holds Try.pinned (OpenSpec.upto fieldTwiceSpec)

/-- 'lockboxlaw3.FieldEval', WHERE WHAT IT READS IS OF BULK AT MOST 1048576: true; the input reads as it did. -/
def fieldEvalUptoRow : OpenClaim := { program := "ytlijonofcnamgaa", sum := "ac0d05d6ccb6396f33666001525a650b27612fdb1c547330b46a3572a7782c2f", func := "lockbox/lockboxlaw3.FieldEval", spec := "fieldEval", apart := false, narrowed := true }
def FieldEvalUptoSaid : Prop := fieldEvalUptoRow.holds Try.pinned (OpenSpec.upto fieldEvalSpec)

end Rows
end Go.Proofs.Ytlijonofcnamgaa
