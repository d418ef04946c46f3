/-
  No cell of these rows narrows 'for every input' (looked for: loops, veiled, ifaces, maps, wideKeys, modest, calm, conditions, laid).
  DERIVED. THE GIVEN ROWS OF THIS SEAT. 5 by the template 'for every input the law returns true; each argument reads behind the call as it read before'; 0 by the template 'total and deterministic' (their statements: YtdabdmkkenjdnaaTotals.lean).
  GIVEN WITH THE SEED: the statements are not yours to turn. If you find one false, say at which input.
  Laid BY PROGRAM, IN A SANDBOX (cutbox-rows.mjs): the forced cells as the released guide's own fill.sh prints them over the translation 5a733d9a460f9fbd… (all of the seat's roots in one cut). By AI agents, Wed Nov 11 2026. No macro, syntax, notation, axiom, sorry.
-/
import Derived.Test.YtdabdmkkenjdnaaChecked
import GoSem.Claim
import GoSem.ClaimJoined
import GoSem.ClaimMapViews
import Derived.JoinedTies
import Derived.KernelRfl
namespace Go.Proofs.Ytdabdmkkenjdnaa
/- THE CELL 'sum', in the pinned program and in every row, IS THE sha256 OF THE DUMP (.gsa) THAT YtdabdmkkenjdnaaProg.lean LOADS. Nothing in Lean hashes anything: it is a label: what it is worth is what the hold of that sum in a sandbox is worth. -/
noncomputable def Try.pinned : Pinned := { name := "ytdabdmkkenjdnaa", sum := "5a733d9a460f9fbde67de30070f35b0ea27fb1b48153f25059ef4b77d1d24b7a", checked := Try.checked }
namespace Rows
def none {H : Type} : Left H := { results := [], args := [] }

/-- 'lockboxlaw4.FlowBegins': WHATEVER THE INPUT: true; the input reads as it did. -/
def flowBeginsSpec : ChangeSpec := { name := "flowBegins", fn := fun _ => fun
  | [d1, d2, d3] => { results := [.lit (.bool true)], args := [d1, d2, d3] }
  | _ => none }
def flowBeginsRow : OpenClaim := { program := "ytdabdmkkenjdnaa", sum := "5a733d9a460f9fbde67de30070f35b0ea27fb1b48153f25059ef4b77d1d24b7a", func := "lockbox/lockboxlaw4.FlowBegins", spec := "flowBegins", apart := false }
def FlowBeginsSaid : Prop := flowBeginsRow.holds Try.pinned (OpenSpec.ofChange flowBeginsSpec)

/-- ITS FALSE NEIGHBOUR: 'it returns false'. Refute it at one input. -/
def flowBeginsWrong : ChangeSpec := { name := "flowBegins", fn := fun _ => fun
  | [d1, d2, d3] => { results := [.lit (.bool false)], args := [d1, d2, d3] }
  | _ => none }
def FlowBeginsWrongFalsely : Prop := flowBeginsRow.holds Try.pinned (OpenSpec.ofChange flowBeginsWrong)

/-- 'lockboxlaw4.FlowBlocks': WHATEVER THE INPUT: true; the input reads as it did. -/
def flowBlocksSpec : ChangeSpec := { name := "flowBlocks", fn := fun _ => fun
  | [d1, d2] => { results := [.lit (.bool true)], args := [d1, d2] }
  | _ => none }
def flowBlocksRow : OpenClaim := { program := "ytdabdmkkenjdnaa", sum := "5a733d9a460f9fbde67de30070f35b0ea27fb1b48153f25059ef4b77d1d24b7a", func := "lockbox/lockboxlaw4.FlowBlocks", spec := "flowBlocks", apart := false }
def FlowBlocksSaid : Prop := flowBlocksRow.holds Try.pinned (OpenSpec.ofChange flowBlocksSpec)

/-- ITS FALSE NEIGHBOUR: 'it returns false'. Refute it at one input. -/
def flowBlocksWrong : ChangeSpec := { name := "flowBlocks", fn := fun _ => fun
  | [d1, d2] => { results := [.lit (.bool false)], args := [d1, d2] }
  | _ => none }
def FlowBlocksWrongFalsely : Prop := flowBlocksRow.holds Try.pinned (OpenSpec.ofChange flowBlocksWrong)

/-- 'lockboxlaw4.FlowBytes': WHATEVER THE INPUT: true; the input reads as it did. -/
def flowBytesSpec : ChangeSpec := { name := "flowBytes", fn := fun _ => fun
  | [d1, d2, d3] => { results := [.lit (.bool true)], args := [d1, d2, d3] }
  | _ => none }
def flowBytesRow : OpenClaim := { program := "ytdabdmkkenjdnaa", sum := "5a733d9a460f9fbde67de30070f35b0ea27fb1b48153f25059ef4b77d1d24b7a", func := "lockbox/lockboxlaw4.FlowBytes", spec := "flowBytes", apart := false }
def FlowBytesSaid : Prop := flowBytesRow.holds Try.pinned (OpenSpec.ofChange flowBytesSpec)

/-- ITS FALSE NEIGHBOUR: 'it returns false'. Refute it at one input. -/
def flowBytesWrong : ChangeSpec := { name := "flowBytes", fn := fun _ => fun
  | [d1, d2, d3] => { results := [.lit (.bool false)], args := [d1, d2, d3] }
  | _ => none }
def FlowBytesWrongFalsely : Prop := flowBytesRow.holds Try.pinned (OpenSpec.ofChange flowBytesWrong)

/-- 'lockboxlaw4.FlowSubs': WHATEVER THE INPUT: true; the input reads as it did. -/
def flowSubsSpec : ChangeSpec := { name := "flowSubs", fn := fun _ => fun
  | [d1, d2, d3] => { results := [.lit (.bool true)], args := [d1, d2, d3] }
  | _ => none }
def flowSubsRow : OpenClaim := { program := "ytdabdmkkenjdnaa", sum := "5a733d9a460f9fbde67de30070f35b0ea27fb1b48153f25059ef4b77d1d24b7a", func := "lockbox/lockboxlaw4.FlowSubs", spec := "flowSubs", apart := false }
def FlowSubsSaid : Prop := flowSubsRow.holds Try.pinned (OpenSpec.ofChange flowSubsSpec)

/-- ITS FALSE NEIGHBOUR: 'it returns false'. Refute it at one input. -/
def flowSubsWrong : ChangeSpec := { name := "flowSubs", fn := fun _ => fun
  | [d1, d2, d3] => { results := [.lit (.bool false)], args := [d1, d2, d3] }
  | _ => none }
def FlowSubsWrongFalsely : Prop := flowSubsRow.holds Try.pinned (OpenSpec.ofChange flowSubsWrong)

/-- 'lockboxlaw4.FlowXor': WHATEVER THE INPUT: true; the input reads as it did. -/
def flowXorSpec : ChangeSpec := { name := "flowXor", fn := fun _ => fun
  | [d1, d2] => { results := [.lit (.bool true)], args := [d1, d2] }
  | _ => none }
def flowXorRow : OpenClaim := { program := "ytdabdmkkenjdnaa", sum := "5a733d9a460f9fbde67de30070f35b0ea27fb1b48153f25059ef4b77d1d24b7a", func := "lockbox/lockboxlaw4.FlowXor", spec := "flowXor", apart := false }
def FlowXorSaid : Prop := flowXorRow.holds Try.pinned (OpenSpec.ofChange flowXorSpec)

/-- ITS FALSE NEIGHBOUR: 'it returns false'. Refute it at one input. -/
def flowXorWrong : ChangeSpec := { name := "flowXor", fn := fun _ => fun
  | [d1, d2] => { results := [.lit (.bool false)], args := [d1, d2] }
  | _ => none }
def FlowXorWrongFalsely : Prop := flowXorRow.holds Try.pinned (OpenSpec.ofChange flowXorWrong)

/- THE SECOND FORM. 'bulk': how many values and letters a reading holds, each counted each time it is reached (what is shared counts as often as it is met; a slice's spare places count too). A statement '..UptoSaid' is the law's where the arguments, and the package variables that the reading takes, are together of bulk at most 1048576: NARROWER than '..Said'. Prove '..Said' where nothing that the law and all that it calls make is longer than what came in: it says more and counts as full. Else prove '..UptoSaid'. A law counts once. -/
mutual
def uptoBulk {H : Type} : DataW H → Nat
  | .lit (.string bytes) => bytes.length + 1
  | .lit _ => 1
  | .nil => 1
  | .ptr d => uptoBulk d + 1
  | .slice elems spare => uptoBulkAll elems + uptoBulkAll spare + 1
  | .agg parts => uptoBulkAll parts + 1
  | .iface _ d => uptoBulk d + 1
  | .map entries => uptoBulkEntries entries + 1
  | .held _ => 1
def uptoBulkAll {H : Type} : List (DataW H) → Nat
  | [] => 0
  | d :: r => uptoBulk d + uptoBulkAll r
def uptoBulkEntries {H : Type} : List (Lit × DataW H) → Nat
  | [] => 0
  | x :: r => uptoBulkEntry x + uptoBulkEntries r
def uptoBulkEntry {H : Type} : Lit × DataW H → Nat
  | (.string bytes, d) => bytes.length + uptoBulk d + 1
  | (_, d) => uptoBulk d + 1
 end
def uptoSmall : (H : Type) → List (DataW H) → Bool := fun _ ds => decide (uptoBulkAll ds ≤ 1048576)
def OpenSpec.upto (s : _root_.Go.ChangeSpec) : _root_.Go.OpenSpec := { _root_.Go.OpenSpec.ofChange s with cond := some uptoSmall }

/-- 'lockboxlaw4.FlowBegins', WHERE WHAT IT READS IS OF BULK AT MOST 1048576: true; the input reads as it did. -/
def flowBeginsUptoRow : OpenClaim := { program := "ytdabdmkkenjdnaa", sum := "5a733d9a460f9fbde67de30070f35b0ea27fb1b48153f25059ef4b77d1d24b7a", func := "lockbox/lockboxlaw4.FlowBegins", spec := "flowBegins", apart := false, narrowed := true }
def FlowBeginsUptoSaid : Prop := flowBeginsUptoRow.holds Try.pinned (OpenSpec.upto flowBeginsSpec)

/-- 'lockboxlaw4.FlowBlocks', WHERE WHAT IT READS IS OF BULK AT MOST 1048576: true; the input reads as it did. -/
def flowBlocksUptoRow : OpenClaim := { program := "ytdabdmkkenjdnaa", sum := "5a733d9a460f9fbde67de30070f35b0ea27fb1b48153f25059ef4b77d1d24b7a", func := "lockbox/lockboxlaw4.FlowBlocks", spec := "flowBlocks", apart := false, narrowed := true }
def FlowBlocksUptoSaid : Prop := flowBlocksUptoRow.holds Try.pinned (OpenSpec.upto flowBlocksSpec)

/-- 'lockboxlaw4.FlowBytes', WHERE WHAT IT READS IS OF BULK AT MOST 1048576: true; the input reads as it did. -/
def flowBytesUptoRow : OpenClaim := { program := "ytdabdmkkenjdnaa", sum := "5a733d9a460f9fbde67de30070f35b0ea27fb1b48153f25059ef4b77d1d24b7a", func := "lockbox/lockboxlaw4.FlowBytes", spec := "flowBytes", apart := false, narrowed := true }
def FlowBytesUptoSaid : Prop := flowBytesUptoRow.holds Try.pinned (OpenSpec.upto flowBytesSpec)

/-- 'lockboxlaw4.FlowSubs', WHERE WHAT IT READS IS OF BULK AT MOST 1048576: true; the input reads as it did. -/
def flowSubsUptoRow : OpenClaim := { program := "ytdabdmkkenjdnaa", sum := "5a733d9a460f9fbde67de30070f35b0ea27fb1b48153f25059ef4b77d1d24b7a", func := "lockbox/lockboxlaw4.FlowSubs", spec := "flowSubs", apart := false, narrowed := true }
def FlowSubsUptoSaid : Prop := flowSubsUptoRow.holds Try.pinned (OpenSpec.upto flowSubsSpec)

/-- 'lockboxlaw4.FlowXor', WHERE WHAT IT READS IS OF BULK AT MOST 1048576: true; the input reads as it did. -/
def flowXorUptoRow : OpenClaim := { program := "ytdabdmkkenjdnaa", sum := "5a733d9a460f9fbde67de30070f35b0ea27fb1b48153f25059ef4b77d1d24b7a", func := "lockbox/lockboxlaw4.FlowXor", spec := "flowXor", apart := false, narrowed := true }
def FlowXorUptoSaid : Prop := flowXorUptoRow.holds Try.pinned (OpenSpec.upto flowXorSpec)

end Rows
end Go.Proofs.Ytdabdmkkenjdnaa
