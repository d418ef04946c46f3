/-
  No cell of these rows narrows 'for every input' (looked for: loops, veiled, ifaces, maps, wideKeys, modest, calm, conditions, laid).
  DERIVED. THE GIVEN ROWS OF THIS SEAT. 4 by the template 'for every input the law returns true; each argument reads behind the call as it read before'; 0 by the template 'total and deterministic' (their statements: YtgbfgaeohnjmeaaTotals.lean).
  GIVEN WITH THE SEED: the statements are not yours to turn. If you find one false, say at which input.
  Laid BY PROGRAM, IN A SANDBOX (cutbox-rows.mjs): the forced cells as the released guide's own fill.sh prints them over the translation 50e11f0e5f557158… (all of the seat's roots in one cut). By AI agents, Wed Nov 11 2026. No macro, syntax, notation, axiom, sorry.
-/
import Derived.Test.YtgbfgaeohnjmeaaChecked
import GoSem.Claim
import GoSem.ClaimJoined
import GoSem.ClaimMapViews
import Derived.JoinedTies
import Derived.KernelRfl
namespace Go.Proofs.Ytgbfgaeohnjmeaa
/- THE CELL 'sum', in the pinned program and in every row, IS THE sha256 OF THE DUMP (.gsa) THAT YtgbfgaeohnjmeaaProg.lean LOADS. Nothing in Lean hashes anything: it is a label: what it is worth is what the hold of that sum in a sandbox is worth. -/
noncomputable def Try.pinned : Pinned := { name := "ytgbfgaeohnjmeaa", sum := "50e11f0e5f557158024f2f1cfa05f8a5d843e4e9f3c6268677a38d8fae228bde", checked := Try.checked }
namespace Rows
def none {H : Type} : Left H := { results := [], args := [] }

/-- 'lockboxlaw11.SsdLasts': WHATEVER THE INPUT: true; the input reads as it did. -/
def ssdLastsSpec : ChangeSpec := { name := "ssdLasts", fn := fun _ => fun
  | [d1, d2, d3, d4] => { results := [.lit (.bool true)], args := [d1, d2, d3, d4] }
  | _ => none }
def ssdLastsRow : OpenClaim := { program := "ytgbfgaeohnjmeaa", sum := "50e11f0e5f557158024f2f1cfa05f8a5d843e4e9f3c6268677a38d8fae228bde", func := "lockbox/lockboxlaw11.SsdLasts", spec := "ssdLasts", unfollowed := true, recurses := true, apart := false }
def SsdLastsSaid : Prop := ssdLastsRow.holds Try.pinned (OpenSpec.ofChange ssdLastsSpec)

/-- ITS FALSE NEIGHBOUR: 'it returns false'. Refute it at one input. -/
def ssdLastsWrong : ChangeSpec := { name := "ssdLasts", fn := fun _ => fun
  | [d1, d2, d3, d4] => { results := [.lit (.bool false)], args := [d1, d2, d3, d4] }
  | _ => none }
def SsdLastsWrongFalsely : Prop := ssdLastsRow.holds Try.pinned (OpenSpec.ofChange ssdLastsWrong)

/-- 'lockboxlaw11.SsdOrder': WHATEVER THE INPUT: true; the input reads as it did. -/
def ssdOrderSpec : ChangeSpec := { name := "ssdOrder", fn := fun _ => fun
  | [d1, d2, d3, d4] => { results := [.lit (.bool true)], args := [d1, d2, d3, d4] }
  | _ => none }
def ssdOrderRow : OpenClaim := { program := "ytgbfgaeohnjmeaa", sum := "50e11f0e5f557158024f2f1cfa05f8a5d843e4e9f3c6268677a38d8fae228bde", func := "lockbox/lockboxlaw11.SsdOrder", spec := "ssdOrder", unfollowed := true, recurses := true, apart := false }
def SsdOrderSaid : Prop := ssdOrderRow.holds Try.pinned (OpenSpec.ofChange ssdOrderSpec)

/-- ITS FALSE NEIGHBOUR: 'it returns false'. Refute it at one input. -/
def ssdOrderWrong : ChangeSpec := { name := "ssdOrder", fn := fun _ => fun
  | [d1, d2, d3, d4] => { results := [.lit (.bool false)], args := [d1, d2, d3, d4] }
  | _ => none }
def SsdOrderWrongFalsely : Prop := ssdOrderRow.holds Try.pinned (OpenSpec.ofChange ssdOrderWrong)

/-- 'lockboxlaw11.SsdFoe': WHATEVER THE INPUT: true; the input reads as it did. -/
def ssdFoeSpec : ChangeSpec := { name := "ssdFoe", fn := fun _ => fun
  | [d1, d2, d3, d4] => { results := [.lit (.bool true)], args := [d1, d2, d3, d4] }
  | _ => none }
def ssdFoeRow : OpenClaim := { program := "ytgbfgaeohnjmeaa", sum := "50e11f0e5f557158024f2f1cfa05f8a5d843e4e9f3c6268677a38d8fae228bde", func := "lockbox/lockboxlaw11.SsdFoe", spec := "ssdFoe", unfollowed := true, recurses := true, apart := false }
def SsdFoeSaid : Prop := ssdFoeRow.holds Try.pinned (OpenSpec.ofChange ssdFoeSpec)

/-- ITS FALSE NEIGHBOUR: 'it returns false'. Refute it at one input. -/
def ssdFoeWrong : ChangeSpec := { name := "ssdFoe", fn := fun _ => fun
  | [d1, d2, d3, d4] => { results := [.lit (.bool false)], args := [d1, d2, d3, d4] }
  | _ => none }
def SsdFoeWrongFalsely : Prop := ssdFoeRow.holds Try.pinned (OpenSpec.ofChange ssdFoeWrong)

/-- 'lockboxlaw11.SsdOwn': WHATEVER THE INPUT: true; the input reads as it did. -/
def ssdOwnSpec : ChangeSpec := { name := "ssdOwn", fn := fun _ => fun
  | [d] => { results := [.lit (.bool true)], args := [d] }
  | _ => none }
def ssdOwnRow : OpenClaim := { program := "ytgbfgaeohnjmeaa", sum := "50e11f0e5f557158024f2f1cfa05f8a5d843e4e9f3c6268677a38d8fae228bde", func := "lockbox/lockboxlaw11.SsdOwn", spec := "ssdOwn", unfollowed := true, recurses := true, apart := false }
def SsdOwnSaid : Prop := ssdOwnRow.holds Try.pinned (OpenSpec.ofChange ssdOwnSpec)

/-- ITS FALSE NEIGHBOUR: 'it returns false'. Refute it at one input. -/
def ssdOwnWrong : ChangeSpec := { name := "ssdOwn", fn := fun _ => fun
  | [d] => { results := [.lit (.bool false)], args := [d] }
  | _ => none }
def SsdOwnWrongFalsely : Prop := ssdOwnRow.holds Try.pinned (OpenSpec.ofChange ssdOwnWrong)

/- THE SECOND FORM. 'bulk': how many values and letters a reading holds, each counted each time it is reached (what is shared counts as often as it is met; a slice's spare places count too). A statement '..UptoSaid' is the law's where the arguments, and the package variables that the reading takes, are together of bulk at most 1048576: NARROWER than '..Said'. Prove '..Said' where nothing that the law and all that it calls make is longer than what came in: it says more and counts as full. Else prove '..UptoSaid'. A law counts once. -/
mutual
def uptoBulk {H : Type} : DataW H → Nat
  | .lit (.string bytes) => bytes.length + 1
  | .lit _ => 1
  | .nil => 1
  | .ptr d => uptoBulk d + 1
  | .slice elems spare => uptoBulkAll elems + uptoBulkAll spare + 1
  | .agg parts => uptoBulkAll parts + 1
  | .iface _ d => uptoBulk d + 1
  | .map entries => uptoBulkEntries entries + 1
  | .held _ => 1
def uptoBulkAll {H : Type} : List (DataW H) → Nat
  | [] => 0
  | d :: r => uptoBulk d + uptoBulkAll r
def uptoBulkEntries {H : Type} : List (Lit × DataW H) → Nat
  | [] => 0
  | x :: r => uptoBulkEntry x + uptoBulkEntries r
def uptoBulkEntry {H : Type} : Lit × DataW H → Nat
  | (.string bytes, d) => bytes.length + uptoBulk d + 1
  | (_, d) => uptoBulk d + 1
 end
def uptoSmall : (H : Type) → List (DataW H) → Bool := fun _ ds => decide (uptoBulkAll ds ≤ 1048576)
def OpenSpec.upto (s : _root_.Go.ChangeSpec) : _root_.Go.OpenSpec := { _root_.Go.OpenSpec.ofChange s with cond := some uptoSmall }

/-- 'lockboxlaw11.SsdLasts', WHERE WHAT IT READS IS OF BULK AT MOST 1048576: true; the input reads as it did. -/
def ssdLastsUptoRow : OpenClaim := { program := "ytgbfgaeohnjmeaa", sum := "50e11f0e5f557158024f2f1cfa05f8a5d843e4e9f3c6268677a38d8fae228bde", func := "lockbox/lockboxlaw11.SsdLasts", spec := "ssdLasts", unfollowed := true, recurses := true, apart := false, narrowed := true }
def SsdLastsUptoSaid : Prop := ssdLastsUptoRow.holds Try.pinned (OpenSpec.upto ssdLastsSpec)

/-- 'lockboxlaw11.SsdOrder', WHERE WHAT IT READS IS OF BULK AT MOST 1048576: true; the input reads as it did. -/
def ssdOrderUptoRow : OpenClaim := { program := "ytgbfgaeohnjmeaa", sum := "50e11f0e5f557158024f2f1cfa05f8a5d843e4e9f3c6268677a38d8fae228bde", func := "lockbox/lockboxlaw11.SsdOrder", spec := "ssdOrder", unfollowed := true, recurses := true, apart := false, narrowed := true }
def SsdOrderUptoSaid : Prop := ssdOrderUptoRow.holds Try.pinned (OpenSpec.upto ssdOrderSpec)

/-- 'lockboxlaw11.SsdFoe', WHERE WHAT IT READS IS OF BULK AT MOST 1048576: true; the input reads as it did. -/
def ssdFoeUptoRow : OpenClaim := { program := "ytgbfgaeohnjmeaa", sum := "50e11f0e5f557158024f2f1cfa05f8a5d843e4e9f3c6268677a38d8fae228bde", func := "lockbox/lockboxlaw11.SsdFoe", spec := "ssdFoe", unfollowed := true, recurses := true, apart := false, narrowed := true }
def SsdFoeUptoSaid : Prop := ssdFoeUptoRow.holds Try.pinned (OpenSpec.upto ssdFoeSpec)

/-- 'lockboxlaw11.SsdOwn', WHERE WHAT IT READS IS OF BULK AT MOST 1048576: true; the input reads as it did. -/
def ssdOwnUptoRow : OpenClaim := { program := "ytgbfgaeohnjmeaa", sum := "50e11f0e5f557158024f2f1cfa05f8a5d843e4e9f3c6268677a38d8fae228bde", func := "lockbox/lockboxlaw11.SsdOwn", spec := "ssdOwn", unfollowed := true, recurses := true, apart := false, narrowed := true }
def SsdOwnUptoSaid : Prop := ssdOwnUptoRow.holds Try.pinned (OpenSpec.upto ssdOwnSpec)

end Rows
end Go.Proofs.Ytgbfgaeohnjmeaa
