/-
  No cell of these rows narrows 'for every input' (looked for: loops, veiled, ifaces, maps, wideKeys, modest, calm, conditions, laid).
  DERIVED. THE GIVEN ROWS OF THIS SEAT. 4 by the template 'for every input the law returns true; each argument reads behind the call as it read before'; 0 by the template 'total and deterministic' (their statements: YtjmepkalomjloaaTotals.lean).
  GIVEN WITH THE SEED: the statements are not yours to turn. If you find one false, say at which input.
  Laid BY PROGRAM, IN A SANDBOX (cutbox-rows.mjs): the forced cells as the released guide's own fill.sh prints them over the translation 4ad0b481ce7fb86e… (all of the seat's roots in one cut). By AI agents, Wed Nov 11 2026. No macro, syntax, notation, axiom, sorry.
-/
import Derived.Test.YtjmepkalomjloaaChecked
import GoSem.Claim
import GoSem.ClaimJoined
import GoSem.ClaimMapViews
import Derived.JoinedTies
import Derived.KernelRfl
namespace Go.Proofs.Ytjmepkalomjloaa
/- THE CELL 'sum', in the pinned program and in every row, IS THE sha256 OF THE DUMP (.gsa) THAT YtjmepkalomjloaaProg.lean LOADS. Nothing in Lean hashes anything: it is a label: what it is worth is what the hold of that sum in a sandbox is worth. -/
noncomputable def Try.pinned : Pinned := { name := "ytjmepkalomjloaa", sum := "4ad0b481ce7fb86ef230dfb33e05e05c1326d05ef45254fd588ae3b7c110b766", checked := Try.checked }
namespace Rows
def none {H : Type} : Left H := { results := [], args := [] }

/-- 'lockboxlaw2.SpeckKeys': WHATEVER THE INPUT: true; the input reads as it did. -/
def speckKeysSpec : ChangeSpec := { name := "speckKeys", fn := fun _ => fun
  | [d] => { results := [.lit (.bool true)], args := [d] }
  | _ => none }
def speckKeysRow : OpenClaim := { program := "ytjmepkalomjloaa", sum := "4ad0b481ce7fb86ef230dfb33e05e05c1326d05ef45254fd588ae3b7c110b766", func := "lockbox/lockboxlaw2.SpeckKeys", spec := "speckKeys", apart := false }
def SpeckKeysSaid : Prop := speckKeysRow.holds Try.pinned (OpenSpec.ofChange speckKeysSpec)

/-- ITS FALSE NEIGHBOUR: 'it returns false'. Refute it at one input. -/
def speckKeysWrong : ChangeSpec := { name := "speckKeys", fn := fun _ => fun
  | [d] => { results := [.lit (.bool false)], args := [d] }
  | _ => none }
def SpeckKeysWrongFalsely : Prop := speckKeysRow.holds Try.pinned (OpenSpec.ofChange speckKeysWrong)

/-- 'lockboxlaw2.SpeckRounds': WHATEVER THE INPUT: true; the input reads as it did. -/
def speckRoundsSpec : ChangeSpec := { name := "speckRounds", fn := fun _ => fun
  | [d] => { results := [.lit (.bool true)], args := [d] }
  | _ => none }
def speckRoundsRow : OpenClaim := { program := "ytjmepkalomjloaa", sum := "4ad0b481ce7fb86ef230dfb33e05e05c1326d05ef45254fd588ae3b7c110b766", func := "lockbox/lockboxlaw2.SpeckRounds", spec := "speckRounds", apart := false }
def SpeckRoundsSaid : Prop := speckRoundsRow.holds Try.pinned (OpenSpec.ofChange speckRoundsSpec)

/-- ITS FALSE NEIGHBOUR: 'it returns false'. Refute it at one input. -/
def speckRoundsWrong : ChangeSpec := { name := "speckRounds", fn := fun _ => fun
  | [d] => { results := [.lit (.bool false)], args := [d] }
  | _ => none }
def SpeckRoundsWrongFalsely : Prop := speckRoundsRow.holds Try.pinned (OpenSpec.ofChange speckRoundsWrong)

/-- 'lockboxlaw2.SpeckBlocks': WHATEVER THE INPUT: true; the input reads as it did. -/
def speckBlocksSpec : ChangeSpec := { name := "speckBlocks", fn := fun _ => fun
  | [d1, d2] => { results := [.lit (.bool true)], args := [d1, d2] }
  | _ => none }
def speckBlocksRow : OpenClaim := { program := "ytjmepkalomjloaa", sum := "4ad0b481ce7fb86ef230dfb33e05e05c1326d05ef45254fd588ae3b7c110b766", func := "lockbox/lockboxlaw2.SpeckBlocks", spec := "speckBlocks", unfollowed := true, recurses := true, apart := false }
def SpeckBlocksSaid : Prop := speckBlocksRow.holds Try.pinned (OpenSpec.ofChange speckBlocksSpec)

/-- ITS FALSE NEIGHBOUR: 'it returns false'. Refute it at one input. -/
def speckBlocksWrong : ChangeSpec := { name := "speckBlocks", fn := fun _ => fun
  | [d1, d2] => { results := [.lit (.bool false)], args := [d1, d2] }
  | _ => none }
def SpeckBlocksWrongFalsely : Prop := speckBlocksRow.holds Try.pinned (OpenSpec.ofChange speckBlocksWrong)

/-- 'lockboxlaw2.SpeckUnlike': WHATEVER THE INPUT: true; the input reads as it did. -/
def speckUnlikeSpec : ChangeSpec := { name := "speckUnlike", fn := fun _ => fun
  | [d1, d2, d3] => { results := [.lit (.bool true)], args := [d1, d2, d3] }
  | _ => none }
def speckUnlikeRow : OpenClaim := { program := "ytjmepkalomjloaa", sum := "4ad0b481ce7fb86ef230dfb33e05e05c1326d05ef45254fd588ae3b7c110b766", func := "lockbox/lockboxlaw2.SpeckUnlike", spec := "speckUnlike", unfollowed := true, recurses := true, apart := false }
def SpeckUnlikeSaid : Prop := speckUnlikeRow.holds Try.pinned (OpenSpec.ofChange speckUnlikeSpec)

/-- ITS FALSE NEIGHBOUR: 'it returns false'. Refute it at one input. -/
def speckUnlikeWrong : ChangeSpec := { name := "speckUnlike", fn := fun _ => fun
  | [d1, d2, d3] => { results := [.lit (.bool false)], args := [d1, d2, d3] }
  | _ => none }
def SpeckUnlikeWrongFalsely : Prop := speckUnlikeRow.holds Try.pinned (OpenSpec.ofChange speckUnlikeWrong)

/- THE SECOND FORM. 'bulk': how many values and letters a reading holds, each counted each time it is reached (what is shared counts as often as it is met; a slice's spare places count too). A statement '..UptoSaid' is the law's where the arguments, and the package variables that the reading takes, are together of bulk at most 1048576: NARROWER than '..Said'. Prove '..Said' where nothing that the law and all that it calls make is longer than what came in: it says more and counts as full. Else prove '..UptoSaid'. A law counts once. -/
mutual
def uptoBulk {H : Type} : DataW H → Nat
  | .lit (.string bytes) => bytes.length + 1
  | .lit _ => 1
  | .nil => 1
  | .ptr d => uptoBulk d + 1
  | .slice elems spare => uptoBulkAll elems + uptoBulkAll spare + 1
  | .agg parts => uptoBulkAll parts + 1
  | .iface _ d => uptoBulk d + 1
  | .map entries => uptoBulkEntries entries + 1
  | .held _ => 1
def uptoBulkAll {H : Type} : List (DataW H) → Nat
  | [] => 0
  | d :: r => uptoBulk d + uptoBulkAll r
def uptoBulkEntries {H : Type} : List (Lit × DataW H) → Nat
  | [] => 0
  | x :: r => uptoBulkEntry x + uptoBulkEntries r
def uptoBulkEntry {H : Type} : Lit × DataW H → Nat
  | (.string bytes, d) => bytes.length + uptoBulk d + 1
  | (_, d) => uptoBulk d + 1
 end
def uptoSmall : (H : Type) → List (DataW H) → Bool := fun _ ds => decide (uptoBulkAll ds ≤ 1048576)
def OpenSpec.upto (s : _root_.Go.ChangeSpec) : _root_.Go.OpenSpec := { _root_.Go.OpenSpec.ofChange s with cond := some uptoSmall }

/-- 'lockboxlaw2.SpeckKeys', WHERE WHAT IT READS IS OF BULK AT MOST 1048576: true; the input reads as it did. -/
def speckKeysUptoRow : OpenClaim := { program := "ytjmepkalomjloaa", sum := "4ad0b481ce7fb86ef230dfb33e05e05c1326d05ef45254fd588ae3b7c110b766", func := "lockbox/lockboxlaw2.SpeckKeys", spec := "speckKeys", apart := false, narrowed := true }
def SpeckKeysUptoSaid : Prop := speckKeysUptoRow.holds Try.pinned (OpenSpec.upto speckKeysSpec)

/-- 'lockboxlaw2.SpeckRounds', WHERE WHAT IT READS IS OF BULK AT MOST 1048576: true; the input reads as it did. -/
def speckRoundsUptoRow : OpenClaim := { program := "ytjmepkalomjloaa", sum := "4ad0b481ce7fb86ef230dfb33e05e05c1326d05ef45254fd588ae3b7c110b766", func := "lockbox/lockboxlaw2.SpeckRounds", spec := "speckRounds", apart := false, narrowed := true }
def SpeckRoundsUptoSaid : Prop := speckRoundsUptoRow.holds Try.pinned (OpenSpec.upto speckRoundsSpec)

/-- 'lockboxlaw2.SpeckBlocks', WHERE WHAT IT READS IS OF BULK AT MOST 1048576: true; the input reads as it did. -/
def speckBlocksUptoRow : OpenClaim := { program := "ytjmepkalomjloaa", sum := "4ad0b481ce7fb86ef230dfb33e05e05c1326d05ef45254fd588ae3b7c110b766", func := "lockbox/lockboxlaw2.SpeckBlocks", spec := "speckBlocks", unfollowed := true, recurses := true, apart := false, narrowed := true }
def SpeckBlocksUptoSaid : Prop := speckBlocksUptoRow.holds Try.pinned (OpenSpec.upto speckBlocksSpec)

/-- 'lockboxlaw2.SpeckUnlike', WHERE WHAT IT READS IS OF BULK AT MOST 1048576: true; the input reads as it did. -/
def speckUnlikeUptoRow : OpenClaim := { program := "ytjmepkalomjloaa", sum := "4ad0b481ce7fb86ef230dfb33e05e05c1326d05ef45254fd588ae3b7c110b766", func := "lockbox/lockboxlaw2.SpeckUnlike", spec := "speckUnlike", unfollowed := true, recurses := true, apart := false, narrowed := true }
def SpeckUnlikeUptoSaid : Prop := speckUnlikeUptoRow.holds Try.pinned (OpenSpec.upto speckUnlikeSpec)

end Rows
end Go.Proofs.Ytjmepkalomjloaa
