/- Numbers as bytes and bytes as numbers, the highest first. Plain: no Go here. -/
import Derived.Test.YtpbdncnepcibaaaPairDef
namespace Go.Proofs.Ytpbdncnepcibaaa

def byteAt (v : BitVec 64) (n i : Nat) : UInt8 := UInt8.ofNat (v.toNat >>> (8 * (n - 1 - i)))
def putB (v : BitVec 64) (n : Nat) : List UInt8 := (List.range n).map (byteAt v n)
theorem putB_length (v : BitVec 64) (n : Nat) : (putB v n).length = n := by simp [putB]
theorem putB_get (v : BitVec 64) (n i : Nat) (h : i < (putB v n).length) : (putB v n)[i] = byteAt v n i := by simp [putB]

def getB (bs : List UInt8) : BitVec 64 := bs.foldl (fun v c => v <<< 8 ||| BitVec.ofNat 64 c.toNat) 0#64
theorem getB_snoc (bs : List UInt8) (c : UInt8) : getB (bs ++ [c]) = getB bs <<< 8 ||| BitVec.ofNat 64 c.toNat := by unfold getB; rw [List.foldl_append]; rfl

end Go.Proofs.Ytpbdncnepcibaaa
