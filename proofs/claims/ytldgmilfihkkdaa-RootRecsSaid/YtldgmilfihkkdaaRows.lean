/-
  No cell of these rows narrows 'for every input' (looked for: loops, veiled, ifaces, maps, wideKeys, modest, calm, conditions, laid).
  DERIVED. THE GIVEN ROWS OF THIS SEAT. 4 by the template 'for every input the law returns true; each argument reads behind the call as it read before'; 0 by the template 'total and deterministic' (their statements: YtldgmilfihkkdaaTotals.lean).
  GIVEN WITH THE SEED: the statements are not yours to turn. If you find one false, say at which input.
  Laid BY PROGRAM, IN A SANDBOX (cutbox-rows.mjs): the forced cells as the released guide's own fill.sh prints them over the translation 477db48dc9a858bf… (all of the seat's roots in one cut). By AI agents, Wed Nov 11 2026. No macro, syntax, notation, axiom, sorry.
-/
import Derived.Test.YtldgmilfihkkdaaChecked
import GoSem.Claim
import GoSem.ClaimJoined
import GoSem.ClaimMapViews
import Derived.JoinedTies
import Derived.KernelRfl
namespace Go.Proofs.Ytldgmilfihkkdaa
/- THE CELL 'sum', in the pinned program and in every row, IS THE sha256 OF THE DUMP (.gsa) THAT YtldgmilfihkkdaaProg.lean LOADS. Nothing in Lean hashes anything: it is a label: what it is worth is what the hold of that sum in a sandbox is worth. -/
noncomputable def Try.pinned : Pinned := { name := "ytldgmilfihkkdaa", sum := "477db48dc9a858bf0b03bbd4a794fecd97e987b7aef9b56ea732e5595ee38e03", checked := Try.checked }
namespace Rows
def none {H : Type} : Left H := { results := [], args := [] }

/-- 'lockboxlaw16.RootPuts': WHATEVER THE INPUT: true; the input reads as it did. -/
def rootPutsSpec : ChangeSpec := { name := "rootPuts", fn := fun _ => fun
  | [d] => { results := [.lit (.bool true)], args := [d] }
  | _ => none }
def rootPutsRow : OpenClaim := { program := "ytldgmilfihkkdaa", sum := "477db48dc9a858bf0b03bbd4a794fecd97e987b7aef9b56ea732e5595ee38e03", func := "lockbox/lockboxlaw16.RootPuts", spec := "rootPuts", apart := false }
def RootPutsSaid : Prop := rootPutsRow.holds Try.pinned (OpenSpec.ofChange rootPutsSpec)

/-- ITS FALSE NEIGHBOUR: 'it returns false'. Refute it at one input. -/
def rootPutsWrong : ChangeSpec := { name := "rootPuts", fn := fun _ => fun
  | [d] => { results := [.lit (.bool false)], args := [d] }
  | _ => none }
def RootPutsWrongFalsely : Prop := rootPutsRow.holds Try.pinned (OpenSpec.ofChange rootPutsWrong)

/-- 'lockboxlaw16.RootGets': WHATEVER THE INPUT: true; the input reads as it did. -/
def rootGetsSpec : ChangeSpec := { name := "rootGets", fn := fun _ => fun
  | [d] => { results := [.lit (.bool true)], args := [d] }
  | _ => none }
def rootGetsRow : OpenClaim := { program := "ytldgmilfihkkdaa", sum := "477db48dc9a858bf0b03bbd4a794fecd97e987b7aef9b56ea732e5595ee38e03", func := "lockbox/lockboxlaw16.RootGets", spec := "rootGets", apart := false }
def RootGetsSaid : Prop := rootGetsRow.holds Try.pinned (OpenSpec.ofChange rootGetsSpec)

/-- ITS FALSE NEIGHBOUR: 'it returns false'. Refute it at one input. -/
def rootGetsWrong : ChangeSpec := { name := "rootGets", fn := fun _ => fun
  | [d] => { results := [.lit (.bool false)], args := [d] }
  | _ => none }
def RootGetsWrongFalsely : Prop := rootGetsRow.holds Try.pinned (OpenSpec.ofChange rootGetsWrong)

/-- 'lockboxlaw16.RootTurned': WHATEVER THE INPUT: true; the input reads as it did. -/
def rootTurnedSpec : ChangeSpec := { name := "rootTurned", fn := fun _ => fun
  | [d1, d2, d3] => { results := [.lit (.bool true)], args := [d1, d2, d3] }
  | _ => none }
def rootTurnedRow : OpenClaim := { program := "ytldgmilfihkkdaa", sum := "477db48dc9a858bf0b03bbd4a794fecd97e987b7aef9b56ea732e5595ee38e03", func := "lockbox/lockboxlaw16.RootTurned", spec := "rootTurned", apart := false }
def RootTurnedSaid : Prop := rootTurnedRow.holds Try.pinned (OpenSpec.ofChange rootTurnedSpec)

/-- ITS FALSE NEIGHBOUR: 'it returns false'. Refute it at one input. -/
def rootTurnedWrong : ChangeSpec := { name := "rootTurned", fn := fun _ => fun
  | [d1, d2, d3] => { results := [.lit (.bool false)], args := [d1, d2, d3] }
  | _ => none }
def RootTurnedWrongFalsely : Prop := rootTurnedRow.holds Try.pinned (OpenSpec.ofChange rootTurnedWrong)

/-- 'lockboxlaw16.RootRecs': WHATEVER THE INPUT: true; the input reads as it did. -/
def rootRecsSpec : ChangeSpec := { name := "rootRecs", fn := fun _ => fun
  | [d1, d2, d3] => { results := [.lit (.bool true)], args := [d1, d2, d3] }
  | _ => none }
def rootRecsRow : OpenClaim := { program := "ytldgmilfihkkdaa", sum := "477db48dc9a858bf0b03bbd4a794fecd97e987b7aef9b56ea732e5595ee38e03", func := "lockbox/lockboxlaw16.RootRecs", spec := "rootRecs", apart := false }
def RootRecsSaid : Prop := rootRecsRow.holds Try.pinned (OpenSpec.ofChange rootRecsSpec)

/-- ITS FALSE NEIGHBOUR: 'it returns false'. Refute it at one input. -/
def rootRecsWrong : ChangeSpec := { name := "rootRecs", fn := fun _ => fun
  | [d1, d2, d3] => { results := [.lit (.bool false)], args := [d1, d2, d3] }
  | _ => none }
def RootRecsWrongFalsely : Prop := rootRecsRow.holds Try.pinned (OpenSpec.ofChange rootRecsWrong)

/- THE SECOND FORM. 'bulk': how many values and letters a reading holds, each counted each time it is reached (what is shared counts as often as it is met; a slice's spare places count too). A statement '..UptoSaid' is the law's where the arguments, and the package variables that the reading takes, are together of bulk at most 1048576: NARROWER than '..Said'. Prove '..Said' where nothing that the law and all that it calls make is longer than what came in: it says more and counts as full. Else prove '..UptoSaid'. A law counts once. -/
mutual
def uptoBulk {H : Type} : DataW H → Nat
  | .lit (.string bytes) => bytes.length + 1
  | .lit _ => 1
  | .nil => 1
  | .ptr d => uptoBulk d + 1
  | .slice elems spare => uptoBulkAll elems + uptoBulkAll spare + 1
  | .agg parts => uptoBulkAll parts + 1
  | .iface _ d => uptoBulk d + 1
  | .map entries => uptoBulkEntries entries + 1
  | .held _ => 1
def uptoBulkAll {H : Type} : List (DataW H) → Nat
  | [] => 0
  | d :: r => uptoBulk d + uptoBulkAll r
def uptoBulkEntries {H : Type} : List (Lit × DataW H) → Nat
  | [] => 0
  | x :: r => uptoBulkEntry x + uptoBulkEntries r
def uptoBulkEntry {H : Type} : Lit × DataW H → Nat
  | (.string bytes, d) => bytes.length + uptoBulk d + 1
  | (_, d) => uptoBulk d + 1
 end
def uptoSmall : (H : Type) → List (DataW H) → Bool := fun _ ds => decide (uptoBulkAll ds ≤ 1048576)
def OpenSpec.upto (s : _root_.Go.ChangeSpec) : _root_.Go.OpenSpec := { _root_.Go.OpenSpec.ofChange s with cond := some uptoSmall }

/-- 'lockboxlaw16.RootPuts', WHERE WHAT IT READS IS OF BULK AT MOST 1048576: true; the input reads as it did. -/
def rootPutsUptoRow : OpenClaim := { program := "ytldgmilfihkkdaa", sum := "477db48dc9a858bf0b03bbd4a794fecd97e987b7aef9b56ea732e5595ee38e03", func := "lockbox/lockboxlaw16.RootPuts", spec := "rootPuts", apart := false, narrowed := true }
def RootPutsUptoSaid : Prop := rootPutsUptoRow.holds Try.pinned (OpenSpec.upto rootPutsSpec)

/-- 'lockboxlaw16.RootGets', WHERE WHAT IT READS IS OF BULK AT MOST 1048576: true; the input reads as it did. -/
def rootGetsUptoRow : OpenClaim := { program := "ytldgmilfihkkdaa", sum := "477db48dc9a858bf0b03bbd4a794fecd97e987b7aef9b56ea732e5595ee38e03", func := "lockbox/lockboxlaw16.RootGets", spec := "rootGets", apart := false, narrowed := true }
def RootGetsUptoSaid : Prop := rootGetsUptoRow.holds Try.pinned (OpenSpec.upto rootGetsSpec)

/-- 'lockboxlaw16.RootTurned', WHERE WHAT IT READS IS OF BULK AT MOST 1048576: true; the input reads as it did. -/
def rootTurnedUptoRow : OpenClaim := { program := "ytldgmilfihkkdaa", sum := "477db48dc9a858bf0b03bbd4a794fecd97e987b7aef9b56ea732e5595ee38e03", func := "lockbox/lockboxlaw16.RootTurned", spec := "rootTurned", apart := false, narrowed := true }
def RootTurnedUptoSaid : Prop := rootTurnedUptoRow.holds Try.pinned (OpenSpec.upto rootTurnedSpec)

/-- 'lockboxlaw16.RootRecs', WHERE WHAT IT READS IS OF BULK AT MOST 1048576: true; the input reads as it did. -/
def rootRecsUptoRow : OpenClaim := { program := "ytldgmilfihkkdaa", sum := "477db48dc9a858bf0b03bbd4a794fecd97e987b7aef9b56ea732e5595ee38e03", func := "lockbox/lockboxlaw16.RootRecs", spec := "rootRecs", apart := false, narrowed := true }
def RootRecsUptoSaid : Prop := rootRecsUptoRow.holds Try.pinned (OpenSpec.upto rootRecsSpec)

end Rows
end Go.Proofs.Ytldgmilfihkkdaa
