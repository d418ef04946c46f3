/-
  No cell of these rows narrows 'for every input' (looked for: loops, veiled, ifaces, maps, wideKeys, modest, calm, conditions, laid).
  DERIVED. THE GIVEN ROWS OF THIS SEAT. 4 by the template 'for every input the law returns true; each argument reads behind the call as it read before'; 0 by the template 'total and deterministic' (their statements: YtkbihhdgipckgaaTotals.lean).
  GIVEN WITH THE SEED: the statements are not yours to turn. If you find one false, say at which input.
  Laid BY PROGRAM, IN A SANDBOX (cutbox-rows.mjs): the forced cells as the released guide's own fill.sh prints them over the translation e02987ba95340517… (all of the seat's roots in one cut). By AI agents, Wed Nov 11 2026. No macro, syntax, notation, axiom, sorry.
-/
import Derived.Test.YtkbihhdgipckgaaChecked
import GoSem.Claim
import GoSem.ClaimJoined
import GoSem.ClaimMapViews
import Derived.JoinedTies
import Derived.KernelRfl
namespace Go.Proofs.Ytkbihhdgipckgaa
/- THE CELL 'sum', in the pinned program and in every row, IS THE sha256 OF THE DUMP (.gsa) THAT YtkbihhdgipckgaaProg.lean LOADS. Nothing in Lean hashes anything: it is a label: what it is worth is what the hold of that sum in a sandbox is worth. -/
noncomputable def Try.pinned : Pinned := { name := "ytkbihhdgipckgaa", sum := "e02987ba9534051744dac27050942925225e2ac5374b4b7e1cc3b54257489ed4", checked := Try.checked }
namespace Rows
def none {H : Type} : Left H := { results := [], args := [] }

/-- 'lockboxlaw15.LeafKinds': WHATEVER THE INPUT: true; the input reads as it did. -/
def leafKindsSpec : ChangeSpec := { name := "leafKinds", fn := fun _ => fun
  | [d1, d2] => { results := [.lit (.bool true)], args := [d1, d2] }
  | _ => none }
def leafKindsRow : OpenClaim := { program := "ytkbihhdgipckgaa", sum := "e02987ba9534051744dac27050942925225e2ac5374b4b7e1cc3b54257489ed4", func := "lockbox/lockboxlaw15.LeafKinds", spec := "leafKinds", apart := false }
def LeafKindsSaid : Prop := leafKindsRow.holds Try.pinned (OpenSpec.ofChange leafKindsSpec)

/-- ITS FALSE NEIGHBOUR: 'it returns false'. Refute it at one input. -/
def leafKindsWrong : ChangeSpec := { name := "leafKinds", fn := fun _ => fun
  | [d1, d2] => { results := [.lit (.bool false)], args := [d1, d2] }
  | _ => none }
def LeafKindsWrongFalsely : Prop := leafKindsRow.holds Try.pinned (OpenSpec.ofChange leafKindsWrong)

/-- 'lockboxlaw15.LeafPuts': WHATEVER THE INPUT: true; the input reads as it did. -/
def leafPutsSpec : ChangeSpec := { name := "leafPuts", fn := fun _ => fun
  | [d1, d2] => { results := [.lit (.bool true)], args := [d1, d2] }
  | _ => none }
def leafPutsRow : OpenClaim := { program := "ytkbihhdgipckgaa", sum := "e02987ba9534051744dac27050942925225e2ac5374b4b7e1cc3b54257489ed4", func := "lockbox/lockboxlaw15.LeafPuts", spec := "leafPuts", apart := false }
def LeafPutsSaid : Prop := leafPutsRow.holds Try.pinned (OpenSpec.ofChange leafPutsSpec)

/-- ITS FALSE NEIGHBOUR: 'it returns false'. Refute it at one input. -/
def leafPutsWrong : ChangeSpec := { name := "leafPuts", fn := fun _ => fun
  | [d1, d2] => { results := [.lit (.bool false)], args := [d1, d2] }
  | _ => none }
def LeafPutsWrongFalsely : Prop := leafPutsRow.holds Try.pinned (OpenSpec.ofChange leafPutsWrong)

/-- 'lockboxlaw15.LeafGets': WHATEVER THE INPUT: true; the input reads as it did. -/
def leafGetsSpec : ChangeSpec := { name := "leafGets", fn := fun _ => fun
  | [d1, d2] => { results := [.lit (.bool true)], args := [d1, d2] }
  | _ => none }
def leafGetsRow : OpenClaim := { program := "ytkbihhdgipckgaa", sum := "e02987ba9534051744dac27050942925225e2ac5374b4b7e1cc3b54257489ed4", func := "lockbox/lockboxlaw15.LeafGets", spec := "leafGets", apart := false }
def LeafGetsSaid : Prop := leafGetsRow.holds Try.pinned (OpenSpec.ofChange leafGetsSpec)

/-- ITS FALSE NEIGHBOUR: 'it returns false'. Refute it at one input. -/
def leafGetsWrong : ChangeSpec := { name := "leafGets", fn := fun _ => fun
  | [d1, d2] => { results := [.lit (.bool false)], args := [d1, d2] }
  | _ => none }
def LeafGetsWrongFalsely : Prop := leafGetsRow.holds Try.pinned (OpenSpec.ofChange leafGetsWrong)

/-- 'lockboxlaw15.LeafTurned': WHATEVER THE INPUT: true; the input reads as it did. -/
def leafTurnedSpec : ChangeSpec := { name := "leafTurned", fn := fun _ => fun
  | [d1, d2, d3, d4] => { results := [.lit (.bool true)], args := [d1, d2, d3, d4] }
  | _ => none }
def leafTurnedRow : OpenClaim := { program := "ytkbihhdgipckgaa", sum := "e02987ba9534051744dac27050942925225e2ac5374b4b7e1cc3b54257489ed4", func := "lockbox/lockboxlaw15.LeafTurned", spec := "leafTurned", apart := false }
def LeafTurnedSaid : Prop := leafTurnedRow.holds Try.pinned (OpenSpec.ofChange leafTurnedSpec)

/-- ITS FALSE NEIGHBOUR: 'it returns false'. Refute it at one input. -/
def leafTurnedWrong : ChangeSpec := { name := "leafTurned", fn := fun _ => fun
  | [d1, d2, d3, d4] => { results := [.lit (.bool false)], args := [d1, d2, d3, d4] }
  | _ => none }
def LeafTurnedWrongFalsely : Prop := leafTurnedRow.holds Try.pinned (OpenSpec.ofChange leafTurnedWrong)

/- THE SECOND FORM. 'bulk': how many values and letters a reading holds, each counted each time it is reached (what is shared counts as often as it is met; a slice's spare places count too). A statement '..UptoSaid' is the law's where the arguments, and the package variables that the reading takes, are together of bulk at most 1048576: NARROWER than '..Said'. Prove '..Said' where nothing that the law and all that it calls make is longer than what came in: it says more and counts as full. Else prove '..UptoSaid'. A law counts once. -/
mutual
def uptoBulk {H : Type} : DataW H → Nat
  | .lit (.string bytes) => bytes.length + 1
  | .lit _ => 1
  | .nil => 1
  | .ptr d => uptoBulk d + 1
  | .slice elems spare => uptoBulkAll elems + uptoBulkAll spare + 1
  | .agg parts => uptoBulkAll parts + 1
  | .iface _ d => uptoBulk d + 1
  | .map entries => uptoBulkEntries entries + 1
  | .held _ => 1
def uptoBulkAll {H : Type} : List (DataW H) → Nat
  | [] => 0
  | d :: r => uptoBulk d + uptoBulkAll r
def uptoBulkEntries {H : Type} : List (Lit × DataW H) → Nat
  | [] => 0
  | x :: r => uptoBulkEntry x + uptoBulkEntries r
def uptoBulkEntry {H : Type} : Lit × DataW H → Nat
  | (.string bytes, d) => bytes.length + uptoBulk d + 1
  | (_, d) => uptoBulk d + 1
 end
def uptoSmall : (H : Type) → List (DataW H) → Bool := fun _ ds => decide (uptoBulkAll ds ≤ 1048576)
def OpenSpec.upto (s : _root_.Go.ChangeSpec) : _root_.Go.OpenSpec := { _root_.Go.OpenSpec.ofChange s with cond := some uptoSmall }

/-- 'lockboxlaw15.LeafKinds', WHERE WHAT IT READS IS OF BULK AT MOST 1048576: true; the input reads as it did. -/
def leafKindsUptoRow : OpenClaim := { program := "ytkbihhdgipckgaa", sum := "e02987ba9534051744dac27050942925225e2ac5374b4b7e1cc3b54257489ed4", func := "lockbox/lockboxlaw15.LeafKinds", spec := "leafKinds", apart := false, narrowed := true }
def LeafKindsUptoSaid : Prop := leafKindsUptoRow.holds Try.pinned (OpenSpec.upto leafKindsSpec)

/-- 'lockboxlaw15.LeafPuts', WHERE WHAT IT READS IS OF BULK AT MOST 1048576: true; the input reads as it did. -/
def leafPutsUptoRow : OpenClaim := { program := "ytkbihhdgipckgaa", sum := "e02987ba9534051744dac27050942925225e2ac5374b4b7e1cc3b54257489ed4", func := "lockbox/lockboxlaw15.LeafPuts", spec := "leafPuts", apart := false, narrowed := true }
def LeafPutsUptoSaid : Prop := leafPutsUptoRow.holds Try.pinned (OpenSpec.upto leafPutsSpec)

/-- 'lockboxlaw15.LeafGets', WHERE WHAT IT READS IS OF BULK AT MOST 1048576: true; the input reads as it did. -/
def leafGetsUptoRow : OpenClaim := { program := "ytkbihhdgipckgaa", sum := "e02987ba9534051744dac27050942925225e2ac5374b4b7e1cc3b54257489ed4", func := "lockbox/lockboxlaw15.LeafGets", spec := "leafGets", apart := false, narrowed := true }
def LeafGetsUptoSaid : Prop := leafGetsUptoRow.holds Try.pinned (OpenSpec.upto leafGetsSpec)

/-- 'lockboxlaw15.LeafTurned', WHERE WHAT IT READS IS OF BULK AT MOST 1048576: true; the input reads as it did. -/
def leafTurnedUptoRow : OpenClaim := { program := "ytkbihhdgipckgaa", sum := "e02987ba9534051744dac27050942925225e2ac5374b4b7e1cc3b54257489ed4", func := "lockbox/lockboxlaw15.LeafTurned", spec := "leafTurned", apart := false, narrowed := true }
def LeafTurnedUptoSaid : Prop := leafTurnedUptoRow.holds Try.pinned (OpenSpec.upto leafTurnedSpec)

end Rows
end Go.Proofs.Ytkbihhdgipckgaa
