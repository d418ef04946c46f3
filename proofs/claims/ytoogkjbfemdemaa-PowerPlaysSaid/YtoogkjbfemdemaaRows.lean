/-
  No cell of these rows narrows 'for every input' (looked for: loops, veiled, ifaces, maps, wideKeys, modest, calm, conditions, laid).
  DERIVED. THE GIVEN ROWS OF THIS SEAT. 4 by the template 'for every input the law returns true; each argument reads behind the call as it read before'; 0 by the template 'total and deterministic' (their statements: YtoogkjbfemdemaaTotals.lean).
  GIVEN WITH THE SEED: the statements are not yours to turn. If you find one false, say at which input.
  Laid BY PROGRAM, IN A SANDBOX (cutbox-rows.mjs): the forced cells as the released guide's own fill.sh prints them over the translation 3ebde810c2ba4617… (all of the seat's roots in one cut). By AI agents, Wed Nov 11 2026. No macro, syntax, notation, axiom, sorry.
-/
import Derived.Test.YtoogkjbfemdemaaChecked
import GoSem.Claim
import GoSem.ClaimJoined
import GoSem.ClaimMapViews
import Derived.JoinedTies
import Derived.KernelRfl
namespace Go.Proofs.Ytoogkjbfemdemaa
/- THE CELL 'sum', in the pinned program and in every row, IS THE sha256 OF THE DUMP (.gsa) THAT YtoogkjbfemdemaaProg.lean LOADS. Nothing in Lean hashes anything: it is a label: what it is worth is what the hold of that sum in a sandbox is worth. -/
noncomputable def Try.pinned : Pinned := { name := "ytoogkjbfemdemaa", sum := "3ebde810c2ba4617a561b94b1dbea0abc8df3618a83a5891288d1105910b90e9", checked := Try.checked }
namespace Rows
def none {H : Type} : Left H := { results := [], args := [] }

/-- 'lockboxlaw10.PowerAnew': WHATEVER THE INPUT: true; the input reads as it did. -/
def powerAnewSpec : ChangeSpec := { name := "powerAnew", fn := fun _ => fun
  | [d1, d2, d3] => { results := [.lit (.bool true)], args := [d1, d2, d3] }
  | _ => none }
def powerAnewRow : OpenClaim := { program := "ytoogkjbfemdemaa", sum := "3ebde810c2ba4617a561b94b1dbea0abc8df3618a83a5891288d1105910b90e9", func := "lockbox/lockboxlaw10.PowerAnew", spec := "powerAnew", apart := false }
def PowerAnewSaid : Prop := powerAnewRow.holds Try.pinned (OpenSpec.ofChange powerAnewSpec)

/-- ITS FALSE NEIGHBOUR: 'it returns false'. Refute it at one input. -/
def powerAnewWrong : ChangeSpec := { name := "powerAnew", fn := fun _ => fun
  | [d1, d2, d3] => { results := [.lit (.bool false)], args := [d1, d2, d3] }
  | _ => none }
def PowerAnewWrongFalsely : Prop := powerAnewRow.holds Try.pinned (OpenSpec.ofChange powerAnewWrong)

/-- 'lockboxlaw10.PowerPlays': WHATEVER THE INPUT: true; the input reads as it did. -/
def powerPlaysSpec : ChangeSpec := { name := "powerPlays", fn := fun _ => fun
  | [d] => { results := [.lit (.bool true)], args := [d] }
  | _ => none }
def powerPlaysRow : OpenClaim := { program := "ytoogkjbfemdemaa", sum := "3ebde810c2ba4617a561b94b1dbea0abc8df3618a83a5891288d1105910b90e9", func := "lockbox/lockboxlaw10.PowerPlays", spec := "powerPlays", apart := false }
def PowerPlaysSaid : Prop := powerPlaysRow.holds Try.pinned (OpenSpec.ofChange powerPlaysSpec)

/-- ITS FALSE NEIGHBOUR: 'it returns false'. Refute it at one input. -/
def powerPlaysWrong : ChangeSpec := { name := "powerPlays", fn := fun _ => fun
  | [d] => { results := [.lit (.bool false)], args := [d] }
  | _ => none }
def PowerPlaysWrongFalsely : Prop := powerPlaysRow.holds Try.pinned (OpenSpec.ofChange powerPlaysWrong)

/-- 'lockboxlaw10.PowerFuse': WHATEVER THE INPUT: true; the input reads as it did. -/
def powerFuseSpec : ChangeSpec := { name := "powerFuse", fn := fun _ => fun
  | [d1, d2] => { results := [.lit (.bool true)], args := [d1, d2] }
  | _ => none }
def powerFuseRow : OpenClaim := { program := "ytoogkjbfemdemaa", sum := "3ebde810c2ba4617a561b94b1dbea0abc8df3618a83a5891288d1105910b90e9", func := "lockbox/lockboxlaw10.PowerFuse", spec := "powerFuse", apart := false }
def PowerFuseSaid : Prop := powerFuseRow.holds Try.pinned (OpenSpec.ofChange powerFuseSpec)

/-- ITS FALSE NEIGHBOUR: 'it returns false'. Refute it at one input. -/
def powerFuseWrong : ChangeSpec := { name := "powerFuse", fn := fun _ => fun
  | [d1, d2] => { results := [.lit (.bool false)], args := [d1, d2] }
  | _ => none }
def PowerFuseWrongFalsely : Prop := powerFuseRow.holds Try.pinned (OpenSpec.ofChange powerFuseWrong)

/-- 'lockboxlaw10.PowerOfNothing': WHATEVER THE INPUT: true; the input reads as it did. -/
def powerOfNothingSpec : ChangeSpec := { name := "powerOfNothing", fn := fun _ => fun
  | [d] => { results := [.lit (.bool true)], args := [d] }
  | _ => none }
def powerOfNothingRow : OpenClaim := { program := "ytoogkjbfemdemaa", sum := "3ebde810c2ba4617a561b94b1dbea0abc8df3618a83a5891288d1105910b90e9", func := "lockbox/lockboxlaw10.PowerOfNothing", spec := "powerOfNothing", apart := false }
def PowerOfNothingSaid : Prop := powerOfNothingRow.holds Try.pinned (OpenSpec.ofChange powerOfNothingSpec)

/-- ITS FALSE NEIGHBOUR: 'it returns false'. Refute it at one input. -/
def powerOfNothingWrong : ChangeSpec := { name := "powerOfNothing", fn := fun _ => fun
  | [d] => { results := [.lit (.bool false)], args := [d] }
  | _ => none }
def PowerOfNothingWrongFalsely : Prop := powerOfNothingRow.holds Try.pinned (OpenSpec.ofChange powerOfNothingWrong)

/- THE SECOND FORM. 'bulk': how many values and letters a reading holds, each counted each time it is reached (what is shared counts as often as it is met; a slice's spare places count too). A statement '..UptoSaid' is the law's where the arguments, and the package variables that the reading takes, are together of bulk at most 1048576: NARROWER than '..Said'. Prove '..Said' where nothing that the law and all that it calls make is longer than what came in: it says more and counts as full. Else prove '..UptoSaid'. A law counts once. -/
mutual
def uptoBulk {H : Type} : DataW H → Nat
  | .lit (.string bytes) => bytes.length + 1
  | .lit _ => 1
  | .nil => 1
  | .ptr d => uptoBulk d + 1
  | .slice elems spare => uptoBulkAll elems + uptoBulkAll spare + 1
  | .agg parts => uptoBulkAll parts + 1
  | .iface _ d => uptoBulk d + 1
  | .map entries => uptoBulkEntries entries + 1
  | .held _ => 1
def uptoBulkAll {H : Type} : List (DataW H) → Nat
  | [] => 0
  | d :: r => uptoBulk d + uptoBulkAll r
def uptoBulkEntries {H : Type} : List (Lit × DataW H) → Nat
  | [] => 0
  | x :: r => uptoBulkEntry x + uptoBulkEntries r
def uptoBulkEntry {H : Type} : Lit × DataW H → Nat
  | (.string bytes, d) => bytes.length + uptoBulk d + 1
  | (_, d) => uptoBulk d + 1
 end
def uptoSmall : (H : Type) → List (DataW H) → Bool := fun _ ds => decide (uptoBulkAll ds ≤ 1048576)
def OpenSpec.upto (s : _root_.Go.ChangeSpec) : _root_.Go.OpenSpec := { _root_.Go.OpenSpec.ofChange s with cond := some uptoSmall }

/-- 'lockboxlaw10.PowerAnew', WHERE WHAT IT READS IS OF BULK AT MOST 1048576: true; the input reads as it did. -/
def powerAnewUptoRow : OpenClaim := { program := "ytoogkjbfemdemaa", sum := "3ebde810c2ba4617a561b94b1dbea0abc8df3618a83a5891288d1105910b90e9", func := "lockbox/lockboxlaw10.PowerAnew", spec := "powerAnew", apart := false, narrowed := true }
def PowerAnewUptoSaid : Prop := powerAnewUptoRow.holds Try.pinned (OpenSpec.upto powerAnewSpec)

/-- 'lockboxlaw10.PowerPlays', WHERE WHAT IT READS IS OF BULK AT MOST 1048576: true; the input reads as it did. -/
def powerPlaysUptoRow : OpenClaim := { program := "ytoogkjbfemdemaa", sum := "3ebde810c2ba4617a561b94b1dbea0abc8df3618a83a5891288d1105910b90e9", func := "lockbox/lockboxlaw10.PowerPlays", spec := "powerPlays", apart := false, narrowed := true }
def PowerPlaysUptoSaid : Prop := powerPlaysUptoRow.holds Try.pinned (OpenSpec.upto powerPlaysSpec)

/-- 'lockboxlaw10.PowerFuse', WHERE WHAT IT READS IS OF BULK AT MOST 1048576: true; the input reads as it did. -/
def powerFuseUptoRow : OpenClaim := { program := "ytoogkjbfemdemaa", sum := "3ebde810c2ba4617a561b94b1dbea0abc8df3618a83a5891288d1105910b90e9", func := "lockbox/lockboxlaw10.PowerFuse", spec := "powerFuse", apart := false, narrowed := true }
def PowerFuseUptoSaid : Prop := powerFuseUptoRow.holds Try.pinned (OpenSpec.upto powerFuseSpec)

/-- 'lockboxlaw10.PowerOfNothing', WHERE WHAT IT READS IS OF BULK AT MOST 1048576: true; the input reads as it did. -/
def powerOfNothingUptoRow : OpenClaim := { program := "ytoogkjbfemdemaa", sum := "3ebde810c2ba4617a561b94b1dbea0abc8df3618a83a5891288d1105910b90e9", func := "lockbox/lockboxlaw10.PowerOfNothing", spec := "powerOfNothing", apart := false, narrowed := true }
def PowerOfNothingUptoSaid : Prop := powerOfNothingUptoRow.holds Try.pinned (OpenSpec.upto powerOfNothingSpec)

end Rows
end Go.Proofs.Ytoogkjbfemdemaa
