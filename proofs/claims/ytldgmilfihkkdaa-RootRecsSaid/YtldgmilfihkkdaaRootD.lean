/- Roots and records as bytes, plain. -/
import Derived.Test.YtldgmilfihkkdaaWireB
import Derived.Test.YtldgmilfihkkdaaCutD
namespace Go.Proofs.Ytldgmilfihkkdaa
open Go

theorem putB_of (bs : List UInt8) (n : Nat) (hn : bs.length = n) (h : n ≤ 8) : putB (getB bs) n = bs := by
  subst hn; exact putB_getB bs h

/-- a root -/
structure Rt where
  count : BitVec 64
  epoch : BitVec 32
  slots : Int
  hash : Pair
deriving DecidableEq
def Rt.val (r : Rt) : Value := .agg #[U r.count, W r.epoch, .int .i64 r.slots, U r.hash.1, U r.hash.2]
def Rt.zero : Rt := ⟨0#64, 0#32, 0, (0#64, 0#64)⟩
def isSl (n : Int) : Bool := n == 4 || n == 8 || n == 16
theorem isSl_cases {n : Int} (h : isSl n = true) : n = 4 ∨ n = 8 ∨ n = 16 := by
  unfold isSl at h
  simp only [Bool.or_eq_true, beq_iff_eq] at h
  rcases h with (h | h) | h
  · exact .inl h
  · exact .inr (.inl h)
  · exact .inr (.inr h)
theorem isSl_false {n : Int} (h : isSl n = false) : n ≠ 4 ∧ n ≠ 8 ∧ n ≠ 16 := by
  unfold isSl at h
  simp only [Bool.or_eq_false_iff, beq_eq_false_iff_ne] at h
  exact ⟨h.1.1, h.1.2, h.2⟩

def rootB (r : Rt) : List UInt8 := putB r.count 8 ++ putB (r.epoch.setWidth 64) 4 ++ putB (BitVec.ofInt 64 r.slots) 4 ++ pairB r.hash
theorem rootB_length (r : Rt) : (rootB r).length = 32 := by simp [rootB, putB_length, pairB_length]
def rootOf (bs : List UInt8) : Rt := ⟨getB (bs.take 8), (getB ((bs.drop 8).take 4)).setWidth 32, ((getB ((bs.drop 12).take 4)).toNat : Int), pairG (bs.drop 16)⟩

theorem get4_lt (bs : List UInt8) (h : bs.length = 4) : (getB bs).toNat < 4294967296 := by
  rw [getB_toNat bs (by omega)]
  have := natB_lt bs
  rw [h] at this
  exact this
theorem set_get4 (bs : List UInt8) (h : bs.length = 4) : ((getB bs).setWidth 32).setWidth 64 = getB bs := by
  apply BitVec.eq_of_toNat_eq
  have := get4_lt bs h
  simp only [BitVec.toNat_setWidth]
  omega
theorem ofInt_get (bs : List UInt8) : BitVec.ofInt 64 ((getB bs).toNat : Int) = getB bs := ofInt_nat _
theorem get_put4 (v : BitVec 32) : (getB (putB (v.setWidth 64) 4)).setWidth 32 = v := by
  apply BitVec.eq_of_toNat_eq
  rw [BitVec.toNat_setWidth, getB_putB _ 4 (by omega), BitVec.toNat_setWidth]
  have := v.isLt
  omega
theorem get_putn (n : Int) (h0 : 0 ≤ n) (h1 : n < 4294967296) : ((getB (putB (BitVec.ofInt 64 n) 4)).toNat : Int) = n := by
  rw [getB_putB _ 4 (by omega), BitVec.toNat_ofInt]
  omega

theorem rootOf_rootB (r : Rt) (h : isSl r.slots = true) : rootOf (rootB r) = r := by
  have hn : 0 ≤ r.slots ∧ r.slots < 4294967296 := by rcases isSl_cases h with h | h | h <;> omega
  have l1 := putB_length r.count 8
  have l2 := putB_length (r.epoch.setWidth 64) 4
  have l3 := putB_length (BitVec.ofInt 64 r.slots) 4
  unfold rootOf rootB
  have e1 : (putB r.count 8 ++ putB (r.epoch.setWidth 64) 4 ++ putB (BitVec.ofInt 64 r.slots) 4 ++ pairB r.hash).take 8 = putB r.count 8 := by
    rw [List.append_assoc, List.append_assoc, List.take_append_of_le_length (by omega), List.take_of_length_le (by omega)]
  have e2 : ((putB r.count 8 ++ putB (r.epoch.setWidth 64) 4 ++ putB (BitVec.ofInt 64 r.slots) 4 ++ pairB r.hash).drop 8).take 4 = putB (r.epoch.setWidth 64) 4 := by
    rw [List.append_assoc, List.append_assoc, List.drop_append_of_le_length (by omega), List.drop_of_length_le (by omega), List.nil_append, List.take_append_of_le_length (by omega), List.take_of_length_le (by omega)]
  have e3 : ((putB r.count 8 ++ putB (r.epoch.setWidth 64) 4 ++ putB (BitVec.ofInt 64 r.slots) 4 ++ pairB r.hash).drop 12).take 4 = putB (BitVec.ofInt 64 r.slots) 4 := by
    rw [List.append_assoc, List.drop_append_of_le_length (by simp [putB_length]), List.drop_of_length_le (by simp [putB_length]), List.nil_append, List.take_append_of_le_length (by omega), List.take_of_length_le (by omega)]
  have e4 : (putB r.count 8 ++ putB (r.epoch.setWidth 64) 4 ++ putB (BitVec.ofInt 64 r.slots) 4 ++ pairB r.hash).drop 16 = pairB r.hash := by
    rw [List.drop_append_of_le_length (by simp [putB_length]), List.drop_of_length_le (by simp [putB_length]), List.nil_append]
  rw [e1, e2, e3, e4, getB_putB8, get_put4, get_putn _ hn.1 hn.2, pairG_pairB]

theorem rootB_rootOf (bs : List UInt8) (h : bs.length = 32) : rootB (rootOf bs) = bs := by
  unfold rootB rootOf
  have l1 : (bs.take 8).length = 8 := by rw [List.length_take]; omega
  have l2 : ((bs.drop 8).take 4).length = 4 := by rw [List.length_take, List.length_drop]; omega
  have l3 : ((bs.drop 12).take 4).length = 4 := by rw [List.length_take, List.length_drop]; omega
  rw [set_get4 _ l2, ofInt_get, putB_of _ 8 l1 (by omega), putB_of _ 4 l2 (by omega), putB_of _ 4 l3 (by omega), pairB_pairG _ (by rw [List.length_drop]; omega)]
  have a1 : bs.drop 12 = (bs.drop 8).drop 4 := by rw [List.drop_drop]
  have a2 : bs.drop 16 = (bs.drop 12).drop 4 := by rw [List.drop_drop]
  rw [List.append_assoc, a2, List.take_append_drop, List.append_assoc, a1, List.take_append_drop, List.take_append_drop]

/-- a root as bytes, bytes as a root -/
def rootP (r : Rt) : Option (List UInt8) := if isSl r.slots then some (rootB r) else none
def rootG (bs : List UInt8) : Option Rt := if bs.length = 32 ∧ isSl (rootOf bs).slots = true then some (rootOf bs) else none
theorem rootG_rootB (r : Rt) (h : isSl r.slots = true) : rootG (rootB r) = some r := by
  unfold rootG
  rw [rootOf_rootB r h, rootB_length, if_pos ⟨rfl, h⟩]
theorem cut_root (bs : List UInt8) : cutB bs [8, 4, 4, 16] = if bs.length = 32 then some [bs.take 8, (bs.drop 8).take 4, (bs.drop 12).take 4, bs.drop 16] else none := by
  simp only [cutB, Int.reduceLE, true_and, Int.reduceToNat, List.drop_drop, Nat.reduceAdd, List.length_drop]
  by_cases h : bs.length = 32
  · rw [if_pos h, if_pos (by omega), if_pos (by omega), if_pos (by omega), if_pos (by omega), if_pos (List.drop_of_length_le (by omega))]
    simp only [Option.map_some]
    rw [List.take_of_length_le (l := bs.drop 16) (by rw [List.length_drop]; omega)]
  · rw [if_neg h]
    by_cases h1 : (8 : Int) ≤ bs.length
    · rw [if_pos h1]
      by_cases h2 : (4 : Int) ≤ ((bs.length - 8 : Nat) : Int)
      · rw [if_pos h2]
        by_cases h3 : (4 : Int) ≤ ((bs.length - 12 : Nat) : Int)
        · rw [if_pos h3]
          by_cases h4 : (16 : Int) ≤ ((bs.length - 16 : Nat) : Int)
          · rw [if_pos h4, if_neg (by intro e; have := congrArg List.length e; rw [List.length_drop] at this; simp at this; omega)]
            rfl
          · rw [if_neg h4]; rfl
        · rw [if_neg h3]; rfl
      · rw [if_neg h2]; rfl
    · rw [if_neg h1]
end Go.Proofs.Ytldgmilfihkkdaa
