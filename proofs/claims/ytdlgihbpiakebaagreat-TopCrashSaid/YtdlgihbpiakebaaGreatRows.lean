/-
  No cell of these rows narrows 'for every input' (looked for: loops, veiled, ifaces, maps, wideKeys, modest, calm, conditions, laid).
  DERIVED. THE GIVEN ROWS OF THIS SEAT. 5 by the template 'for every input the law returns true; each argument reads behind the call as it read before'; 0 by the template 'total and deterministic' (their statements: YtdlgihbpiakebaaGreatTotals.lean).
  GIVEN WITH THE SEED: the statements are not yours to turn. If you find one false, say at which input.
  Laid BY PROGRAM, IN A SANDBOX (cutbox-rows.mjs): the forced cells as the released guide's own fill.sh prints them over the translation 767aad805804dda6… (all of the seat's roots in one cut). By AI agents, Wed Nov 11 2026. No macro, syntax, notation, axiom, sorry.
-/
import Derived.Test.YtdlgihbpiakebaaGreatChecked
import GoSem.Claim
import GoSem.ClaimJoined
import GoSem.ClaimMapViews
import Derived.JoinedTies
import Derived.KernelRfl
namespace Go.Proofs.YtdlgihbpiakebaaGreat
/- THE CELL 'sum', in the pinned program and in every row, IS THE sha256 OF THE DUMP (.gsa) THAT YtdlgihbpiakebaaGreatProg.lean LOADS. Nothing in Lean hashes anything: it is a label: what it is worth is what the hold of that sum in a sandbox is worth. -/
noncomputable def Tryz.pinned : Pinned := { name := "ytdlgihbpiakebaagreat", sum := "767aad805804dda660b1f085e67e582d325b4d591805877d9bf6c02405056863", checked := Tryz.checked }
namespace Rows
def none {H : Type} : Left H := { results := [], args := [] }

/-- 'lockboxtop.TopHonest': WHATEVER THE INPUT: true; the input reads as it did. -/
def topHonestSpec : ChangeSpec := { name := "topHonest", fn := fun _ => fun
  | [d1, d2, d3] => { results := [.lit (.bool true)], args := [d1, d2, d3] }
  | _ => none }
def topHonestRow : OpenClaim := { program := "ytdlgihbpiakebaagreat", sum := "767aad805804dda660b1f085e67e582d325b4d591805877d9bf6c02405056863", func := "lockbox/lockboxtop.TopHonest", spec := "topHonest", inPlace := ["internal/bytealg.MakeNoZero"], unfollowed := true, recurses := true, plainKeys := false, apart := false }
def TopHonestSaid : Prop := topHonestRow.holds Tryz.pinned (OpenSpec.ofChange topHonestSpec)

/-- ITS FALSE NEIGHBOUR: 'it returns false'. Refute it at one input. -/
def topHonestWrong : ChangeSpec := { name := "topHonest", fn := fun _ => fun
  | [d1, d2, d3] => { results := [.lit (.bool false)], args := [d1, d2, d3] }
  | _ => none }
def TopHonestWrongFalsely : Prop := topHonestRow.holds Tryz.pinned (OpenSpec.ofChange topHonestWrong)

/-- 'lockboxtop.TopDiscards': WHATEVER THE INPUT: true; the input reads as it did. -/
def topDiscardsSpec : ChangeSpec := { name := "topDiscards", fn := fun _ => fun
  | [d1, d2, d3, d4] => { results := [.lit (.bool true)], args := [d1, d2, d3, d4] }
  | _ => none }
def topDiscardsRow : OpenClaim := { program := "ytdlgihbpiakebaagreat", sum := "767aad805804dda660b1f085e67e582d325b4d591805877d9bf6c02405056863", func := "lockbox/lockboxtop.TopDiscards", spec := "topDiscards", inPlace := ["internal/bytealg.MakeNoZero"], unfollowed := true, recurses := true, plainKeys := false, apart := false }
def TopDiscardsSaid : Prop := topDiscardsRow.holds Tryz.pinned (OpenSpec.ofChange topDiscardsSpec)

/-- ITS FALSE NEIGHBOUR: 'it returns false'. Refute it at one input. -/
def topDiscardsWrong : ChangeSpec := { name := "topDiscards", fn := fun _ => fun
  | [d1, d2, d3, d4] => { results := [.lit (.bool false)], args := [d1, d2, d3, d4] }
  | _ => none }
def TopDiscardsWrongFalsely : Prop := topDiscardsRow.holds Tryz.pinned (OpenSpec.ofChange topDiscardsWrong)

/-- 'lockboxtop.TopBack': WHATEVER THE INPUT: true; the input reads as it did. -/
def topBackSpec : ChangeSpec := { name := "topBack", fn := fun _ => fun
  | [d1, d2, d3, d4, d5] => { results := [.lit (.bool true)], args := [d1, d2, d3, d4, d5] }
  | _ => none }
def topBackRow : OpenClaim := { program := "ytdlgihbpiakebaagreat", sum := "767aad805804dda660b1f085e67e582d325b4d591805877d9bf6c02405056863", func := "lockbox/lockboxtop.TopBack", spec := "topBack", inPlace := ["internal/bytealg.MakeNoZero"], unfollowed := true, recurses := true, plainKeys := false, apart := false }
def TopBackSaid : Prop := topBackRow.holds Tryz.pinned (OpenSpec.ofChange topBackSpec)

/-- ITS FALSE NEIGHBOUR: 'it returns false'. Refute it at one input. -/
def topBackWrong : ChangeSpec := { name := "topBack", fn := fun _ => fun
  | [d1, d2, d3, d4, d5] => { results := [.lit (.bool false)], args := [d1, d2, d3, d4, d5] }
  | _ => none }
def TopBackWrongFalsely : Prop := topBackRow.holds Tryz.pinned (OpenSpec.ofChange topBackWrong)

/-- 'lockboxtop.TopCrash': WHATEVER THE INPUT: true; the input reads as it did. -/
def topCrashSpec : ChangeSpec := { name := "topCrash", fn := fun _ => fun
  | [d1, d2] => { results := [.lit (.bool true)], args := [d1, d2] }
  | _ => none }
def topCrashRow : OpenClaim := { program := "ytdlgihbpiakebaagreat", sum := "767aad805804dda660b1f085e67e582d325b4d591805877d9bf6c02405056863", func := "lockbox/lockboxtop.TopCrash", spec := "topCrash", inPlace := ["internal/bytealg.MakeNoZero"], unfollowed := true, recurses := true, plainKeys := false, apart := false }
def TopCrashSaid : Prop := topCrashRow.holds Tryz.pinned (OpenSpec.ofChange topCrashSpec)

/-- ITS FALSE NEIGHBOUR: 'it returns false'. Refute it at one input. -/
def topCrashWrong : ChangeSpec := { name := "topCrash", fn := fun _ => fun
  | [d1, d2] => { results := [.lit (.bool false)], args := [d1, d2] }
  | _ => none }
def TopCrashWrongFalsely : Prop := topCrashRow.holds Tryz.pinned (OpenSpec.ofChange topCrashWrong)

/-- 'lockboxtop.TopEpochs': WHATEVER THE INPUT: true; the input reads as it did. -/
def topEpochsSpec : ChangeSpec := { name := "topEpochs", fn := fun _ => fun
  | [d1, d2] => { results := [.lit (.bool true)], args := [d1, d2] }
  | _ => none }
def topEpochsRow : OpenClaim := { program := "ytdlgihbpiakebaagreat", sum := "767aad805804dda660b1f085e67e582d325b4d591805877d9bf6c02405056863", func := "lockbox/lockboxtop.TopEpochs", spec := "topEpochs", inPlace := ["internal/bytealg.MakeNoZero"], unfollowed := true, recurses := true, plainKeys := false, apart := false }
def TopEpochsSaid : Prop := topEpochsRow.holds Tryz.pinned (OpenSpec.ofChange topEpochsSpec)

/-- ITS FALSE NEIGHBOUR: 'it returns false'. Refute it at one input. -/
def topEpochsWrong : ChangeSpec := { name := "topEpochs", fn := fun _ => fun
  | [d1, d2] => { results := [.lit (.bool false)], args := [d1, d2] }
  | _ => none }
def TopEpochsWrongFalsely : Prop := topEpochsRow.holds Tryz.pinned (OpenSpec.ofChange topEpochsWrong)

/- THE SECOND FORM. 'bulk': how many values and letters a reading holds, each counted each time it is reached (what is shared counts as often as it is met; a slice's spare places count too). A statement '..UptoSaid' is the law's where the arguments, and the package variables that the reading takes, are together of bulk at most 1048576: NARROWER than '..Said'. Prove '..Said' where nothing that the law and all that it calls make is longer than what came in: it says more and counts as full. Else prove '..UptoSaid'. A law counts once. -/
mutual
def uptoBulk {H : Type} : DataW H → Nat
  | .lit (.string bytes) => bytes.length + 1
  | .lit _ => 1
  | .nil => 1
  | .ptr d => uptoBulk d + 1
  | .slice elems spare => uptoBulkAll elems + uptoBulkAll spare + 1
  | .agg parts => uptoBulkAll parts + 1
  | .iface _ d => uptoBulk d + 1
  | .map entries => uptoBulkEntries entries + 1
  | .held _ => 1
def uptoBulkAll {H : Type} : List (DataW H) → Nat
  | [] => 0
  | d :: r => uptoBulk d + uptoBulkAll r
def uptoBulkEntries {H : Type} : List (Lit × DataW H) → Nat
  | [] => 0
  | x :: r => uptoBulkEntry x + uptoBulkEntries r
def uptoBulkEntry {H : Type} : Lit × DataW H → Nat
  | (.string bytes, d) => bytes.length + uptoBulk d + 1
  | (_, d) => uptoBulk d + 1
 end
def uptoSmall : (H : Type) → List (DataW H) → Bool := fun _ ds => decide (uptoBulkAll ds ≤ 1048576)
def OpenSpec.upto (s : _root_.Go.ChangeSpec) : _root_.Go.OpenSpec := { _root_.Go.OpenSpec.ofChange s with cond := some uptoSmall }

/-- 'lockboxtop.TopHonest', WHERE WHAT IT READS IS OF BULK AT MOST 1048576: true; the input reads as it did. -/
def topHonestUptoRow : OpenClaim := { program := "ytdlgihbpiakebaagreat", sum := "767aad805804dda660b1f085e67e582d325b4d591805877d9bf6c02405056863", func := "lockbox/lockboxtop.TopHonest", spec := "topHonest", inPlace := ["internal/bytealg.MakeNoZero"], unfollowed := true, recurses := true, plainKeys := false, apart := false, narrowed := true }
def TopHonestUptoSaid : Prop := topHonestUptoRow.holds Tryz.pinned (OpenSpec.upto topHonestSpec)

/-- 'lockboxtop.TopDiscards', WHERE WHAT IT READS IS OF BULK AT MOST 1048576: true; the input reads as it did. -/
def topDiscardsUptoRow : OpenClaim := { program := "ytdlgihbpiakebaagreat", sum := "767aad805804dda660b1f085e67e582d325b4d591805877d9bf6c02405056863", func := "lockbox/lockboxtop.TopDiscards", spec := "topDiscards", inPlace := ["internal/bytealg.MakeNoZero"], unfollowed := true, recurses := true, plainKeys := false, apart := false, narrowed := true }
def TopDiscardsUptoSaid : Prop := topDiscardsUptoRow.holds Tryz.pinned (OpenSpec.upto topDiscardsSpec)

/-- 'lockboxtop.TopBack', WHERE WHAT IT READS IS OF BULK AT MOST 1048576: true; the input reads as it did. -/
def topBackUptoRow : OpenClaim := { program := "ytdlgihbpiakebaagreat", sum := "767aad805804dda660b1f085e67e582d325b4d591805877d9bf6c02405056863", func := "lockbox/lockboxtop.TopBack", spec := "topBack", inPlace := ["internal/bytealg.MakeNoZero"], unfollowed := true, recurses := true, plainKeys := false, apart := false, narrowed := true }
def TopBackUptoSaid : Prop := topBackUptoRow.holds Tryz.pinned (OpenSpec.upto topBackSpec)

/-- 'lockboxtop.TopCrash', WHERE WHAT IT READS IS OF BULK AT MOST 1048576: true; the input reads as it did. -/
def topCrashUptoRow : OpenClaim := { program := "ytdlgihbpiakebaagreat", sum := "767aad805804dda660b1f085e67e582d325b4d591805877d9bf6c02405056863", func := "lockbox/lockboxtop.TopCrash", spec := "topCrash", inPlace := ["internal/bytealg.MakeNoZero"], unfollowed := true, recurses := true, plainKeys := false, apart := false, narrowed := true }
def TopCrashUptoSaid : Prop := topCrashUptoRow.holds Tryz.pinned (OpenSpec.upto topCrashSpec)

/-- 'lockboxtop.TopEpochs', WHERE WHAT IT READS IS OF BULK AT MOST 1048576: true; the input reads as it did. -/
def topEpochsUptoRow : OpenClaim := { program := "ytdlgihbpiakebaagreat", sum := "767aad805804dda660b1f085e67e582d325b4d591805877d9bf6c02405056863", func := "lockbox/lockboxtop.TopEpochs", spec := "topEpochs", inPlace := ["internal/bytealg.MakeNoZero"], unfollowed := true, recurses := true, plainKeys := false, apart := false, narrowed := true }
def TopEpochsUptoSaid : Prop := topEpochsUptoRow.holds Tryz.pinned (OpenSpec.upto topEpochsSpec)

end Rows
end Go.Proofs.YtdlgihbpiakebaaGreat
