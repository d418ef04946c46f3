/- Records as bytes, plain. -/
import Derived.Test.YtldgmilfihkkdaaRootD
import Derived.Test.YtldgmilfihkkdaaNnD
namespace Go.Proofs.Ytldgmilfihkkdaa
open Go

def recB (n : Nn) (bs : List UInt8) (tag : Pair) : List UInt8 := putB (n.epoch.setWidth 64) 4 ++ putB n.version 8 ++ bs ++ pairB tag
theorem recB_length (n : Nn) (bs : List UInt8) (tag : Pair) (h : bs.length = 32) : (recB n bs tag).length = 60 := by simp [recB, putB_length, pairB_length, h]
def recN (bs : List UInt8) : Nn := ⟨(getB (bs.take 4)).setWidth 32, 65535#32, getB ((bs.drop 4).take 8)⟩
def recS (bs : List UInt8) : List UInt8 := (bs.drop 12).take 32
def recT (bs : List UInt8) : Pair := pairG (bs.drop 44)
theorem rec_back (n : Nn) (bs : List UInt8) (tag : Pair) (hs : n.slot = 65535#32) (h : bs.length = 32) : recN (recB n bs tag) = n ∧ recS (recB n bs tag) = bs ∧ recT (recB n bs tag) = tag := by
  have l1 := putB_length (n.epoch.setWidth 64) 4
  have l2 := putB_length n.version 8
  have e1 : (recB n bs tag).take 4 = putB (n.epoch.setWidth 64) 4 := by
    unfold recB
    rw [List.append_assoc, List.append_assoc, List.take_append_of_le_length (by omega), List.take_of_length_le (by omega)]
  have e2 : ((recB n bs tag).drop 4).take 8 = putB n.version 8 := by
    unfold recB
    rw [List.append_assoc, List.append_assoc, List.drop_append_of_le_length (by omega), List.drop_of_length_le (by omega), List.nil_append, List.take_append_of_le_length (by omega), List.take_of_length_le (by omega)]
  have e3 : ((recB n bs tag).drop 12).take 32 = bs := by
    unfold recB
    rw [List.append_assoc, List.drop_append_of_le_length (by simp [putB_length]), List.drop_of_length_le (by simp [putB_length]), List.nil_append, List.take_append_of_le_length (by omega), List.take_of_length_le (by omega)]
  have e4 : (recB n bs tag).drop 44 = pairB tag := by
    unfold recB
    rw [List.drop_append_of_le_length (by simp [putB_length, h]), List.drop_of_length_le (by simp [putB_length, h]), List.nil_append]
  refine ⟨?_, e3, ?_⟩
  · unfold recN
    rw [e1, e2, get_put4, getB_putB8]
    obtain ⟨a, b, c⟩ := n
    simp only at hs
    rw [hs]
  · unfold recT
    rw [e4, pairG_pairB]
theorem cut_rec (bs : List UInt8) : cutB bs [4, 8, 32, 16] = if bs.length = 60 then some [bs.take 4, (bs.drop 4).take 8, (bs.drop 12).take 32, bs.drop 44] else none := by
  simp only [cutB, Int.reduceLE, true_and, Int.reduceToNat, List.drop_drop, Nat.reduceAdd, List.length_drop]
  by_cases h : bs.length = 60
  · rw [if_pos h, if_pos (by omega), if_pos (by omega), if_pos (by omega), if_pos (by omega), if_pos (List.drop_of_length_le (by omega))]
    simp only [Option.map_some]
    rw [List.take_of_length_le (l := bs.drop 44) (by rw [List.length_drop]; omega)]
  · rw [if_neg h]
    by_cases h1 : (4 : Int) ≤ bs.length
    · rw [if_pos h1]
      by_cases h2 : (8 : Int) ≤ ((bs.length - 4 : Nat) : Int)
      · rw [if_pos h2]
        by_cases h3 : (32 : Int) ≤ ((bs.length - 12 : Nat) : Int)
        · rw [if_pos h3]
          by_cases h4 : (16 : Int) ≤ ((bs.length - 44 : Nat) : Int)
          · rw [if_pos h4, if_neg (by intro e; have := congrArg List.length e; rw [List.length_drop] at this; simp at this; omega)]
            rfl
          · rw [if_neg h4]; rfl
        · rw [if_neg h3]; rfl
      · rw [if_neg h2]; rfl
    · rw [if_neg h1]
end Go.Proofs.Ytldgmilfihkkdaa
