/-
  No cell of these rows narrows 'for every input' (looked for: loops, veiled, ifaces, maps, wideKeys, modest, calm, conditions, laid).
  DERIVED. THE GIVEN ROWS OF THIS SEAT. 4 by the template 'for every input the law returns true; each argument reads behind the call as it read before'; 0 by the template 'total and deterministic' (their statements: YtdcejhplkhoboaaTotals.lean).
  GIVEN WITH THE SEED: the statements are not yours to turn. If you find one false, say at which input.
  Laid BY PROGRAM, IN A SANDBOX (cutbox-rows.mjs): the forced cells as the released guide's own fill.sh prints them over the translation 21de5646714108a9… (all of the seat's roots in one cut). By AI agents, Wed Nov 11 2026. No macro, syntax, notation, axiom, sorry.
-/
import Derived.Test.YtdcejhplkhoboaaChecked
import GoSem.Claim
import GoSem.ClaimJoined
import GoSem.ClaimMapViews
import Derived.JoinedTies
import Derived.KernelRfl
namespace Go.Proofs.Ytdcejhplkhoboaa
/- THE CELL 'sum', in the pinned program and in every row, IS THE sha256 OF THE DUMP (.gsa) THAT YtdcejhplkhoboaaProg.lean LOADS. Nothing in Lean hashes anything: it is a label: what it is worth is what the hold of that sum in a sandbox is worth. -/
noncomputable def Try.pinned : Pinned := { name := "ytdcejhplkhoboaa", sum := "21de5646714108a956a106a4547fe6f0748faad41a2c1ad7ecaf24044f12752f", checked := Try.checked }
namespace Rows
def none {H : Type} : Left H := { results := [], args := [] }

/-- 'lockboxlaw14.KeysOf': WHATEVER THE INPUT: true; the input reads as it did. -/
def keysOfSpec : ChangeSpec := { name := "keysOf", fn := fun _ => fun
  | [d1, d2, d3] => { results := [.lit (.bool true)], args := [d1, d2, d3] }
  | _ => none }
def keysOfRow : OpenClaim := { program := "ytdcejhplkhoboaa", sum := "21de5646714108a956a106a4547fe6f0748faad41a2c1ad7ecaf24044f12752f", func := "lockbox/lockboxlaw14.KeysOf", spec := "keysOf", unfollowed := true, recurses := true, apart := false }
def KeysOfSaid : Prop := keysOfRow.holds Try.pinned (OpenSpec.ofChange keysOfSpec)

/-- ITS FALSE NEIGHBOUR: 'it returns false'. Refute it at one input. -/
def keysOfWrong : ChangeSpec := { name := "keysOf", fn := fun _ => fun
  | [d1, d2, d3] => { results := [.lit (.bool false)], args := [d1, d2, d3] }
  | _ => none }
def KeysOfWrongFalsely : Prop := keysOfRow.holds Try.pinned (OpenSpec.ofChange keysOfWrong)

/-- 'lockboxlaw14.KeysGone': WHATEVER THE INPUT: true; the input reads as it did. -/
def keysGoneSpec : ChangeSpec := { name := "keysGone", fn := fun _ => fun
  | [d1, d2, d3, d4] => { results := [.lit (.bool true)], args := [d1, d2, d3, d4] }
  | _ => none }
def keysGoneRow : OpenClaim := { program := "ytdcejhplkhoboaa", sum := "21de5646714108a956a106a4547fe6f0748faad41a2c1ad7ecaf24044f12752f", func := "lockbox/lockboxlaw14.KeysGone", spec := "keysGone", unfollowed := true, recurses := true, apart := false }
def KeysGoneSaid : Prop := keysGoneRow.holds Try.pinned (OpenSpec.ofChange keysGoneSpec)

/-- ITS FALSE NEIGHBOUR: 'it returns false'. Refute it at one input. -/
def keysGoneWrong : ChangeSpec := { name := "keysGone", fn := fun _ => fun
  | [d1, d2, d3, d4] => { results := [.lit (.bool false)], args := [d1, d2, d3, d4] }
  | _ => none }
def KeysGoneWrongFalsely : Prop := keysGoneRow.holds Try.pinned (OpenSpec.ofChange keysGoneWrong)

/-- 'lockboxlaw14.KeysCurrent': WHATEVER THE INPUT: true; the input reads as it did. -/
def keysCurrentSpec : ChangeSpec := { name := "keysCurrent", fn := fun _ => fun
  | [d1, d2, d3] => { results := [.lit (.bool true)], args := [d1, d2, d3] }
  | _ => none }
def keysCurrentRow : OpenClaim := { program := "ytdcejhplkhoboaa", sum := "21de5646714108a956a106a4547fe6f0748faad41a2c1ad7ecaf24044f12752f", func := "lockbox/lockboxlaw14.KeysCurrent", spec := "keysCurrent", unfollowed := true, recurses := true, apart := false }
def KeysCurrentSaid : Prop := keysCurrentRow.holds Try.pinned (OpenSpec.ofChange keysCurrentSpec)

/-- ITS FALSE NEIGHBOUR: 'it returns false'. Refute it at one input. -/
def keysCurrentWrong : ChangeSpec := { name := "keysCurrent", fn := fun _ => fun
  | [d1, d2, d3] => { results := [.lit (.bool false)], args := [d1, d2, d3] }
  | _ => none }
def KeysCurrentWrongFalsely : Prop := keysCurrentRow.holds Try.pinned (OpenSpec.ofChange keysCurrentWrong)

/-- 'lockboxlaw14.KeysPlays': WHATEVER THE INPUT: true; the input reads as it did. -/
def keysPlaysSpec : ChangeSpec := { name := "keysPlays", fn := fun _ => fun
  | [d1, d2] => { results := [.lit (.bool true)], args := [d1, d2] }
  | _ => none }
def keysPlaysRow : OpenClaim := { program := "ytdcejhplkhoboaa", sum := "21de5646714108a956a106a4547fe6f0748faad41a2c1ad7ecaf24044f12752f", func := "lockbox/lockboxlaw14.KeysPlays", spec := "keysPlays", unfollowed := true, recurses := true, apart := false }
def KeysPlaysSaid : Prop := keysPlaysRow.holds Try.pinned (OpenSpec.ofChange keysPlaysSpec)

/-- ITS FALSE NEIGHBOUR: 'it returns false'. Refute it at one input. -/
def keysPlaysWrong : ChangeSpec := { name := "keysPlays", fn := fun _ => fun
  | [d1, d2] => { results := [.lit (.bool false)], args := [d1, d2] }
  | _ => none }
def KeysPlaysWrongFalsely : Prop := keysPlaysRow.holds Try.pinned (OpenSpec.ofChange keysPlaysWrong)

/- THE SECOND FORM. 'bulk': how many values and letters a reading holds, each counted each time it is reached (what is shared counts as often as it is met; a slice's spare places count too). A statement '..UptoSaid' is the law's where the arguments, and the package variables that the reading takes, are together of bulk at most 1048576: NARROWER than '..Said'. Prove '..Said' where nothing that the law and all that it calls make is longer than what came in: it says more and counts as full. Else prove '..UptoSaid'. A law counts once. -/
mutual
def uptoBulk {H : Type} : DataW H → Nat
  | .lit (.string bytes) => bytes.length + 1
  | .lit _ => 1
  | .nil => 1
  | .ptr d => uptoBulk d + 1
  | .slice elems spare => uptoBulkAll elems + uptoBulkAll spare + 1
  | .agg parts => uptoBulkAll parts + 1
  | .iface _ d => uptoBulk d + 1
  | .map entries => uptoBulkEntries entries + 1
  | .held _ => 1
def uptoBulkAll {H : Type} : List (DataW H) → Nat
  | [] => 0
  | d :: r => uptoBulk d + uptoBulkAll r
def uptoBulkEntries {H : Type} : List (Lit × DataW H) → Nat
  | [] => 0
  | x :: r => uptoBulkEntry x + uptoBulkEntries r
def uptoBulkEntry {H : Type} : Lit × DataW H → Nat
  | (.string bytes, d) => bytes.length + uptoBulk d + 1
  | (_, d) => uptoBulk d + 1
 end
def uptoSmall : (H : Type) → List (DataW H) → Bool := fun _ ds => decide (uptoBulkAll ds ≤ 1048576)
def OpenSpec.upto (s : _root_.Go.ChangeSpec) : _root_.Go.OpenSpec := { _root_.Go.OpenSpec.ofChange s with cond := some uptoSmall }

/-- 'lockboxlaw14.KeysOf', WHERE WHAT IT READS IS OF BULK AT MOST 1048576: true; the input reads as it did. -/
def keysOfUptoRow : OpenClaim := { program := "ytdcejhplkhoboaa", sum := "21de5646714108a956a106a4547fe6f0748faad41a2c1ad7ecaf24044f12752f", func := "lockbox/lockboxlaw14.KeysOf", spec := "keysOf", unfollowed := true, recurses := true, apart := false, narrowed := true }
def KeysOfUptoSaid : Prop := keysOfUptoRow.holds Try.pinned (OpenSpec.upto keysOfSpec)

/-- 'lockboxlaw14.KeysGone', WHERE WHAT IT READS IS OF BULK AT MOST 1048576: true; the input reads as it did. -/
def keysGoneUptoRow : OpenClaim := { program := "ytdcejhplkhoboaa", sum := "21de5646714108a956a106a4547fe6f0748faad41a2c1ad7ecaf24044f12752f", func := "lockbox/lockboxlaw14.KeysGone", spec := "keysGone", unfollowed := true, recurses := true, apart := false, narrowed := true }
def KeysGoneUptoSaid : Prop := keysGoneUptoRow.holds Try.pinned (OpenSpec.upto keysGoneSpec)

/-- 'lockboxlaw14.KeysCurrent', WHERE WHAT IT READS IS OF BULK AT MOST 1048576: true; the input reads as it did. -/
def keysCurrentUptoRow : OpenClaim := { program := "ytdcejhplkhoboaa", sum := "21de5646714108a956a106a4547fe6f0748faad41a2c1ad7ecaf24044f12752f", func := "lockbox/lockboxlaw14.KeysCurrent", spec := "keysCurrent", unfollowed := true, recurses := true, apart := false, narrowed := true }
def KeysCurrentUptoSaid : Prop := keysCurrentUptoRow.holds Try.pinned (OpenSpec.upto keysCurrentSpec)

/-- 'lockboxlaw14.KeysPlays', WHERE WHAT IT READS IS OF BULK AT MOST 1048576: true; the input reads as it did. -/
def keysPlaysUptoRow : OpenClaim := { program := "ytdcejhplkhoboaa", sum := "21de5646714108a956a106a4547fe6f0748faad41a2c1ad7ecaf24044f12752f", func := "lockbox/lockboxlaw14.KeysPlays", spec := "keysPlays", unfollowed := true, recurses := true, apart := false, narrowed := true }
def KeysPlaysUptoSaid : Prop := keysPlaysUptoRow.holds Try.pinned (OpenSpec.upto keysPlaysSpec)

end Rows
end Go.Proofs.Ytdcejhplkhoboaa
