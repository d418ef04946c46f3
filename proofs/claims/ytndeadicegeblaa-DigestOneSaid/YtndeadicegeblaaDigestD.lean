/- A sum of 16 bytes, plain. -/
import Derived.Test.YtndeadicegeblaaSpeckD
import Derived.Test.YtndeadicegeblaaWireB
namespace Go.Proofs.Ytndeadicegeblaa
open Go

/-- a state, a Pair on -/
def step2 (s m : Pair) : Pair := ((enc2 m s).1 ^^^ s.1, (enc2 m s).2 ^^^ s.2)
/-- how many noughts stand behind n bytes and one -/
def padN (n : Nat) : Nat := (7 + 15 * n) % 16
theorem padN_end (n : Nat) : (n + 1 + padN n) % 16 = 8 := by unfold padN; omega
theorem padN_lt (n k : Nat) (h : k < padN n) : (n + 1 + k) % 16 ≠ 8 := by unfold padN at h; omega
theorem padN_le (n : Nat) : padN n ≤ 15 := by unfold padN; omega
def padB (bs : List UInt8) : List UInt8 := bs ++ [128] ++ List.replicate (padN bs.length) 0 ++ putB (BitVec.ofInt 64 (bs.length : Int)) 8
theorem padB_length (bs : List UInt8) : (padB bs).length = bs.length + 1 + padN bs.length + 8 := by simp [padB, putB_length]; omega
theorem padB_16 (bs : List UInt8) : ∃ m, (padB bs).length = 16 * m := by
  have := padN_end bs.length
  exact ⟨(padB bs).length / 16, by rw [padB_length]; omega⟩
def iv : Pair := (7640891576956012808#64, 13503953896175478587#64)
/-- the k-th sixteen of a row -/
def row16 (l : List UInt8) (k : Nat) : List UInt8 := (l.drop (16 * k)).take 16
theorem row16_length (l : List UInt8) (k m : Nat) (h : l.length = 16 * m) (hk : k < m) : (row16 l k).length = 16 := by
  unfold row16; rw [List.length_take, List.length_drop]; omega
def sumK (l : List UInt8) : Nat → Pair
  | 0 => iv
  | k + 1 => step2 (sumK l k) (pairG (row16 l k))
def sumB (bs : List UInt8) : Pair := sumK (padB bs) ((padB bs).length / 16)
end Go.Proofs.Ytndeadicegeblaa
