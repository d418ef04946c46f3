/-
  No cell of these rows narrows 'for every input' (looked for: loops, veiled, ifaces, maps, wideKeys, modest, calm, conditions, laid).
  DERIVED. THE GIVEN ROWS OF THIS SEAT. 4 by the template 'for every input the law returns true; each argument reads behind the call as it read before'; 0 by the template 'total and deterministic' (their statements: YtndeadicegeblaaTotals.lean).
  GIVEN WITH THE SEED: the statements are not yours to turn. If you find one false, say at which input.
  Laid BY PROGRAM, IN A SANDBOX (cutbox-rows.mjs): the forced cells as the released guide's own fill.sh prints them over the translation 5617d0dfe9d71f40… (all of the seat's roots in one cut). By AI agents, Wed Nov 11 2026. No macro, syntax, notation, axiom, sorry.
-/
import Derived.Test.YtndeadicegeblaaChecked
import GoSem.Claim
import GoSem.ClaimJoined
import GoSem.ClaimMapViews
import Derived.JoinedTies
import Derived.KernelRfl
namespace Go.Proofs.Ytndeadicegeblaa
/- THE CELL 'sum', in the pinned program and in every row, IS THE sha256 OF THE DUMP (.gsa) THAT YtndeadicegeblaaProg.lean LOADS. Nothing in Lean hashes anything: it is a label: what it is worth is what the hold of that sum in a sandbox is worth. -/
noncomputable def Try.pinned : Pinned := { name := "ytndeadicegeblaa", sum := "5617d0dfe9d71f409fd583c7e7e03085ab939177a25779c6d387867e8bcdda8a", checked := Try.checked }
namespace Rows
def none {H : Type} : Left H := { results := [], args := [] }

/-- 'lockboxlaw6.DigestSums': WHATEVER THE INPUT: true; the input reads as it did. -/
def digestSumsSpec : ChangeSpec := { name := "digestSums", fn := fun _ => fun
  | [d1, d2, d3] => { results := [.lit (.bool true)], args := [d1, d2, d3] }
  | _ => none }
def digestSumsRow : OpenClaim := { program := "ytndeadicegeblaa", sum := "5617d0dfe9d71f409fd583c7e7e03085ab939177a25779c6d387867e8bcdda8a", func := "lockbox/lockboxlaw6.DigestSums", spec := "digestSums", unfollowed := true, recurses := true, apart := false }
def DigestSumsSaid : Prop := digestSumsRow.holds Try.pinned (OpenSpec.ofChange digestSumsSpec)

/-- ITS FALSE NEIGHBOUR: 'it returns false'. Refute it at one input. -/
def digestSumsWrong : ChangeSpec := { name := "digestSums", fn := fun _ => fun
  | [d1, d2, d3] => { results := [.lit (.bool false)], args := [d1, d2, d3] }
  | _ => none }
def DigestSumsWrongFalsely : Prop := digestSumsRow.holds Try.pinned (OpenSpec.ofChange digestSumsWrong)

/-- 'lockboxlaw6.DigestRows': WHATEVER THE INPUT: true; the input reads as it did. -/
def digestRowsSpec : ChangeSpec := { name := "digestRows", fn := fun _ => fun
  | [d] => { results := [.lit (.bool true)], args := [d] }
  | _ => none }
def digestRowsRow : OpenClaim := { program := "ytndeadicegeblaa", sum := "5617d0dfe9d71f409fd583c7e7e03085ab939177a25779c6d387867e8bcdda8a", func := "lockbox/lockboxlaw6.DigestRows", spec := "digestRows", unfollowed := true, recurses := true, apart := false }
def DigestRowsSaid : Prop := digestRowsRow.holds Try.pinned (OpenSpec.ofChange digestRowsSpec)

/-- ITS FALSE NEIGHBOUR: 'it returns false'. Refute it at one input. -/
def digestRowsWrong : ChangeSpec := { name := "digestRows", fn := fun _ => fun
  | [d] => { results := [.lit (.bool false)], args := [d] }
  | _ => none }
def DigestRowsWrongFalsely : Prop := digestRowsRow.holds Try.pinned (OpenSpec.ofChange digestRowsWrong)

/-- 'lockboxlaw6.DigestEnds': WHATEVER THE INPUT: true; the input reads as it did. -/
def digestEndsSpec : ChangeSpec := { name := "digestEnds", fn := fun _ => fun
  | [d1, d2] => { results := [.lit (.bool true)], args := [d1, d2] }
  | _ => none }
def digestEndsRow : OpenClaim := { program := "ytndeadicegeblaa", sum := "5617d0dfe9d71f409fd583c7e7e03085ab939177a25779c6d387867e8bcdda8a", func := "lockbox/lockboxlaw6.DigestEnds", spec := "digestEnds", unfollowed := true, recurses := true, apart := false }
def DigestEndsSaid : Prop := digestEndsRow.holds Try.pinned (OpenSpec.ofChange digestEndsSpec)

/-- ITS FALSE NEIGHBOUR: 'it returns false'. Refute it at one input. -/
def digestEndsWrong : ChangeSpec := { name := "digestEnds", fn := fun _ => fun
  | [d1, d2] => { results := [.lit (.bool false)], args := [d1, d2] }
  | _ => none }
def DigestEndsWrongFalsely : Prop := digestEndsRow.holds Try.pinned (OpenSpec.ofChange digestEndsWrong)

/-- 'lockboxlaw6.DigestOne': WHATEVER THE INPUT: true; the input reads as it did. -/
def digestOneSpec : ChangeSpec := { name := "digestOne", fn := fun _ => fun
  | [d] => { results := [.lit (.bool true)], args := [d] }
  | _ => none }
def digestOneRow : OpenClaim := { program := "ytndeadicegeblaa", sum := "5617d0dfe9d71f409fd583c7e7e03085ab939177a25779c6d387867e8bcdda8a", func := "lockbox/lockboxlaw6.DigestOne", spec := "digestOne", unfollowed := true, recurses := true, apart := false }
def DigestOneSaid : Prop := digestOneRow.holds Try.pinned (OpenSpec.ofChange digestOneSpec)

/-- ITS FALSE NEIGHBOUR: 'it returns false'. Refute it at one input. -/
def digestOneWrong : ChangeSpec := { name := "digestOne", fn := fun _ => fun
  | [d] => { results := [.lit (.bool false)], args := [d] }
  | _ => none }
def DigestOneWrongFalsely : Prop := digestOneRow.holds Try.pinned (OpenSpec.ofChange digestOneWrong)

/- THE SECOND FORM. 'bulk': how many values and letters a reading holds, each counted each time it is reached (what is shared counts as often as it is met; a slice's spare places count too). A statement '..UptoSaid' is the law's where the arguments, and the package variables that the reading takes, are together of bulk at most 1048576: NARROWER than '..Said'. Prove '..Said' where nothing that the law and all that it calls make is longer than what came in: it says more and counts as full. Else prove '..UptoSaid'. A law counts once. -/
mutual
def uptoBulk {H : Type} : DataW H → Nat
  | .lit (.string bytes) => bytes.length + 1
  | .lit _ => 1
  | .nil => 1
  | .ptr d => uptoBulk d + 1
  | .slice elems spare => uptoBulkAll elems + uptoBulkAll spare + 1
  | .agg parts => uptoBulkAll parts + 1
  | .iface _ d => uptoBulk d + 1
  | .map entries => uptoBulkEntries entries + 1
  | .held _ => 1
def uptoBulkAll {H : Type} : List (DataW H) → Nat
  | [] => 0
  | d :: r => uptoBulk d + uptoBulkAll r
def uptoBulkEntries {H : Type} : List (Lit × DataW H) → Nat
  | [] => 0
  | x :: r => uptoBulkEntry x + uptoBulkEntries r
def uptoBulkEntry {H : Type} : Lit × DataW H → Nat
  | (.string bytes, d) => bytes.length + uptoBulk d + 1
  | (_, d) => uptoBulk d + 1
 end
def uptoSmall : (H : Type) → List (DataW H) → Bool := fun _ ds => decide (uptoBulkAll ds ≤ 1048576)
def OpenSpec.upto (s : _root_.Go.ChangeSpec) : _root_.Go.OpenSpec := { _root_.Go.OpenSpec.ofChange s with cond := some uptoSmall }

/-- 'lockboxlaw6.DigestSums', WHERE WHAT IT READS IS OF BULK AT MOST 1048576: true; the input reads as it did. -/
def digestSumsUptoRow : OpenClaim := { program := "ytndeadicegeblaa", sum := "5617d0dfe9d71f409fd583c7e7e03085ab939177a25779c6d387867e8bcdda8a", func := "lockbox/lockboxlaw6.DigestSums", spec := "digestSums", unfollowed := true, recurses := true, apart := false, narrowed := true }
def DigestSumsUptoSaid : Prop := digestSumsUptoRow.holds Try.pinned (OpenSpec.upto digestSumsSpec)

/-- 'lockboxlaw6.DigestRows', WHERE WHAT IT READS IS OF BULK AT MOST 1048576: true; the input reads as it did. -/
def digestRowsUptoRow : OpenClaim := { program := "ytndeadicegeblaa", sum := "5617d0dfe9d71f409fd583c7e7e03085ab939177a25779c6d387867e8bcdda8a", func := "lockbox/lockboxlaw6.DigestRows", spec := "digestRows", unfollowed := true, recurses := true, apart := false, narrowed := true }
def DigestRowsUptoSaid : Prop := digestRowsUptoRow.holds Try.pinned (OpenSpec.upto digestRowsSpec)

/-- 'lockboxlaw6.DigestEnds', WHERE WHAT IT READS IS OF BULK AT MOST 1048576: true; the input reads as it did. -/
def digestEndsUptoRow : OpenClaim := { program := "ytndeadicegeblaa", sum := "5617d0dfe9d71f409fd583c7e7e03085ab939177a25779c6d387867e8bcdda8a", func := "lockbox/lockboxlaw6.DigestEnds", spec := "digestEnds", unfollowed := true, recurses := true, apart := false, narrowed := true }
def DigestEndsUptoSaid : Prop := digestEndsUptoRow.holds Try.pinned (OpenSpec.upto digestEndsSpec)

/-- 'lockboxlaw6.DigestOne', WHERE WHAT IT READS IS OF BULK AT MOST 1048576: true; the input reads as it did. -/
def digestOneUptoRow : OpenClaim := { program := "ytndeadicegeblaa", sum := "5617d0dfe9d71f409fd583c7e7e03085ab939177a25779c6d387867e8bcdda8a", func := "lockbox/lockboxlaw6.DigestOne", spec := "digestOne", unfollowed := true, recurses := true, apart := false, narrowed := true }
def DigestOneUptoSaid : Prop := digestOneUptoRow.holds Try.pinned (OpenSpec.upto digestOneSpec)

end Rows
end Go.Proofs.Ytndeadicegeblaa
