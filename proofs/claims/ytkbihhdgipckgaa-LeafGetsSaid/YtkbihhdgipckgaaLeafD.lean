/- Leaves as bytes, plain. -/
import Derived.Test.YtkbihhdgipckgaaWireB
import Derived.Test.YtkbihhdgipckgaaCutD
namespace Go.Proofs.Ytkbihhdgipckgaa
open Go

theorem putB_of (bs : List UInt8) (n : Nat) (hn : bs.length = n) (h : n ≤ 8) : putB (getB bs) n = bs := by
  subst hn; exact putB_getB bs h
theorem getn_lt (bs : List UInt8) (n : Nat) (h : bs.length = n) (hn : n ≤ 8) : (getB bs).toNat < 256 ^ n := by
  rw [getB_toNat bs (by omega), ← h]
  exact natB_lt bs
theorem get_put4 (v : BitVec 32) : (getB (putB (v.setWidth 64) 4)).setWidth 32 = v := by
  apply BitVec.eq_of_toNat_eq
  rw [BitVec.toNat_setWidth, getB_putB _ 4 (by omega), BitVec.toNat_setWidth]
  have := v.isLt
  omega
theorem get_putn (n : Int) (k : Nat) (hk : k ≤ 7) (h0 : 0 ≤ n) (h1 : n < 256 ^ k) : ((getB (putB (BitVec.ofInt 64 n) k)).toNat : Int) = n := by
  rw [getB_putB _ k (by omega), BitVec.toNat_ofInt]
  have h9 : (256 : Nat) ^ k ≤ 256 ^ 7 := Nat.pow_le_pow_right (by omega) hk
  have e : (256 : Nat) ^ 7 = 72057594037927936 := by decide
  have h8 : (256 : Int) ^ k = ((256 ^ k : Nat) : Int) := by rw [Int.natCast_pow]; rfl
  rw [h8] at h1
  have h3 : ((n % ((2 ^ 64 : Nat) : Int)).toNat : Int) = n := by omega
  have h2 : (n % ((2 ^ 64 : Nat) : Int)).toNat < 256 ^ k := by
    have h4 : ((n % ((2 ^ 64 : Nat) : Int)).toNat : Int) < ((256 ^ k : Nat) : Int) := by rw [h3]; exact h1
    omega
  rw [Nat.mod_eq_of_lt h2]
  exact h3

/-- a leaf -/
structure Lf where
  kind : Int
  dirty : Bool
  lba : Int
  ep : BitVec 32
  sl : BitVec 32
  ver : BitVec 64
  tag : Pair
deriving DecidableEq
def lfEq (a b : Lf) : Bool := decide (a = b)
def Lf.val (l : Lf) : Value := .agg #[.int .i64 l.kind, .bool l.dirty, .int .i64 l.lba, W l.ep, W l.sl, U l.ver, U l.tag.1, U l.tag.2]
def Lf.zero : Lf := ⟨0, false, 0, 0#32, 0#32, 0#64, (0#64, 0#64)⟩
def isLbaB (n : Int) : Bool := decide (0 ≤ n) && decide (n < 32)
/-- may a slot have it? -/
def isLeaf (l : Lf) (s : Int) : Bool :=
  (decide (0 ≤ s) && decide (s < 16)) &&
  (if l.kind = 0 then decide (l = Lf.zero)
   else if l.kind = 2 then isLbaB l.lba && decide (l = ⟨2, true, l.lba, 0#32, 0#32, 0#64, (0#64, 0#64)⟩)
   else if l.kind = 1 then isLbaB l.lba && (l.sl == BitVec.ofInt 32 s) && decide (0#32 < l.ep)
   else false)
def dirtyU (b : Bool) : BitVec 64 := if b then 1#64 else 0#64
def leafB (l : Lf) : List UInt8 := putB (BitVec.ofInt 64 l.kind) 1 ++ putB (dirtyU l.dirty) 1 ++ putB (BitVec.ofInt 64 l.lba) 2 ++ putB (l.ep.setWidth 64) 4 ++ putB l.ver 8 ++ pairB l.tag
theorem leafB_length (l : Lf) : (leafB l).length = 32 := by simp [leafB, putB_length, pairB_length]
def leafOf (bs : List UInt8) (s : Int) : Lf :=
  ⟨((getB (bs.take 1)).toNat : Int), getB ((bs.drop 1).take 1) == 1#64, ((getB ((bs.drop 2).take 2)).toNat : Int), (getB ((bs.drop 4).take 4)).setWidth 32,
    if ((getB (bs.take 1)).toNat : Int) = 1 then BitVec.ofInt 32 s else 0#32, getB ((bs.drop 8).take 8), pairG (bs.drop 16)⟩
def leafG (bs : List UInt8) (s : Int) : Option Lf := if bs.length = 32 ∧ isLeaf (leafOf bs s) s = true ∧ leafB (leafOf bs s) = bs then some (leafOf bs s) else none

theorem isLeaf_slot {l : Lf} {s : Int} (h : isLeaf l s = true) : 0 ≤ s ∧ s < 16 := by
  unfold isLeaf at h
  simp only [Bool.and_eq_true, decide_eq_true_eq] at h
  exact h.1
theorem isLeaf_cases {l : Lf} {s : Int} (h : isLeaf l s = true) : l = Lf.zero ∨ (l = ⟨2, true, l.lba, 0#32, 0#32, 0#64, (0#64, 0#64)⟩ ∧ 0 ≤ l.lba ∧ l.lba < 32) ∨ (l.kind = 1 ∧ 0 ≤ l.lba ∧ l.lba < 32 ∧ l.sl = BitVec.ofInt 32 s ∧ 0#32 < l.ep) := by
  unfold isLeaf at h
  simp only [Bool.and_eq_true] at h
  obtain ⟨_, h⟩ := h
  split at h
  · exact .inl (of_decide_eq_true h)
  · split at h
    · simp only [Bool.and_eq_true, isLbaB, decide_eq_true_eq] at h
      exact .inr (.inl ⟨h.2, h.1.1, h.1.2⟩)
    · split at h
      · simp only [Bool.and_eq_true, isLbaB, decide_eq_true_eq, beq_iff_eq] at h
        exact .inr (.inr ⟨by assumption, h.1.1.1, h.1.1.2, h.1.2, h.2⟩)
      · cases h
theorem leafOf_leafB (l : Lf) (s : Int) (h : isLeaf l s = true) : leafOf (leafB l) s = l := by
  have l1 := putB_length (BitVec.ofInt 64 l.kind) 1
  have l2 := putB_length (dirtyU l.dirty) 1
  have l3 := putB_length (BitVec.ofInt 64 l.lba) 2
  have l4 := putB_length (l.ep.setWidth 64) 4
  have l5 := putB_length l.ver 8
  have e1 : (leafB l).take 1 = putB (BitVec.ofInt 64 l.kind) 1 := by
    unfold leafB
    simp only [List.append_assoc]
    rw [List.take_append_of_le_length (by omega), List.take_of_length_le (by omega)]
  have e2 : ((leafB l).drop 1).take 1 = putB (dirtyU l.dirty) 1 := by
    unfold leafB
    simp only [List.append_assoc]
    rw [List.drop_append_of_le_length (by omega), List.drop_of_length_le (by omega), List.nil_append, List.take_append_of_le_length (by omega), List.take_of_length_le (by omega)]
  have e3 : ((leafB l).drop 2).take 2 = putB (BitVec.ofInt 64 l.lba) 2 := by
    have : leafB l = (putB (BitVec.ofInt 64 l.kind) 1 ++ putB (dirtyU l.dirty) 1) ++ (putB (BitVec.ofInt 64 l.lba) 2 ++ (putB (l.ep.setWidth 64) 4 ++ putB l.ver 8 ++ pairB l.tag)) := by simp [leafB]
    rw [this, List.drop_append_of_le_length (by simp [l1, l2]), List.drop_of_length_le (by simp [l1, l2]), List.nil_append, List.take_append_of_le_length (by omega), List.take_of_length_le (by omega)]
  have e4 : ((leafB l).drop 4).take 4 = putB (l.ep.setWidth 64) 4 := by
    have : leafB l = (putB (BitVec.ofInt 64 l.kind) 1 ++ putB (dirtyU l.dirty) 1 ++ putB (BitVec.ofInt 64 l.lba) 2) ++ (putB (l.ep.setWidth 64) 4 ++ (putB l.ver 8 ++ pairB l.tag)) := by simp [leafB]
    rw [this, List.drop_append_of_le_length (by simp [l1, l2, l3]), List.drop_of_length_le (by simp [l1, l2, l3]), List.nil_append, List.take_append_of_le_length (by omega), List.take_of_length_le (by omega)]
  have e5 : ((leafB l).drop 8).take 8 = putB l.ver 8 := by
    have : leafB l = (putB (BitVec.ofInt 64 l.kind) 1 ++ putB (dirtyU l.dirty) 1 ++ putB (BitVec.ofInt 64 l.lba) 2 ++ putB (l.ep.setWidth 64) 4) ++ (putB l.ver 8 ++ pairB l.tag) := by simp [leafB]
    rw [this, List.drop_append_of_le_length (by simp [l1, l2, l3, l4]), List.drop_of_length_le (by simp [l1, l2, l3, l4]), List.nil_append, List.take_append_of_le_length (by omega), List.take_of_length_le (by omega)]
  have e6 : (leafB l).drop 16 = pairB l.tag := by
    unfold leafB
    rw [List.drop_append_of_le_length (by simp [l1, l2, l3, l4, l5]), List.drop_of_length_le (by simp [l1, l2, l3, l4, l5]), List.nil_append]
  have hk : 0 ≤ l.kind ∧ l.kind < 256 ^ 1 ∧ 0 ≤ l.lba ∧ l.lba < 256 ^ 2 ∧ (l.sl = if l.kind = 1 then BitVec.ofInt 32 s else 0#32) := by
    rcases isLeaf_cases h with e | ⟨e, a, b⟩ | ⟨e, a, b, c, _⟩
    · rw [e]; simp [Lf.zero]
    · have e2 := congrArg Lf.kind e
      have e3 := congrArg Lf.sl e
      simp only at e2 e3
      refine ⟨by omega, by omega, a, by omega, ?_⟩
      rw [e3, e2]; rfl
    · refine ⟨by omega, by omega, a, by omega, ?_⟩
      rw [if_pos e]; exact c
  unfold leafOf
  rw [e1, e2, e3, e4, e5, e6, get_putn _ 1 (by omega) hk.1 hk.2.1, get_putn _ 2 (by omega) hk.2.2.1 hk.2.2.2.1, get_put4, getB_putB8, pairG_pairB, ← hk.2.2.2.2]
  have hd : (getB (putB (dirtyU l.dirty) 1) == 1#64) = l.dirty := by cases l.dirty <;> decide
  rw [hd]
theorem leafG_leafB (l : Lf) (s : Int) (h : isLeaf l s = true) : leafG (leafB l) s = some l := by
  unfold leafG
  rw [leafOf_leafB l s h, leafB_length, if_pos ⟨rfl, h, rfl⟩]
theorem leafG_some {bs : List UInt8} {s : Int} {l : Lf} (h : leafG bs s = some l) : leafB l = bs ∧ isLeaf l s = true := by
  unfold leafG at h
  split at h
  · rename_i k; cases h; exact ⟨k.2.2, k.2.1⟩
  · cases h
theorem cut_leaf (bs : List UInt8) : cutB bs [1, 1, 2, 4, 8, 16] = if bs.length = 32 then some [bs.take 1, (bs.drop 1).take 1, (bs.drop 2).take 2, (bs.drop 4).take 4, (bs.drop 8).take 8, bs.drop 16] else none := by
  simp only [cutB, Int.reduceLE, true_and, Int.reduceToNat, List.drop_drop, Nat.reduceAdd, List.length_drop]
  by_cases h : bs.length = 32
  · rw [if_pos h, if_pos (by omega), if_pos (by omega), if_pos (by omega), if_pos (by omega), if_pos (by omega), if_pos (by omega), if_pos (List.drop_of_length_le (by omega))]
    simp only [Option.map_some]
    rw [List.take_of_length_le (l := bs.drop 16) (by rw [List.length_drop]; omega)]
  · rw [if_neg h]
    by_cases h1 : (1 : Int) ≤ bs.length
    · rw [if_pos h1]
      by_cases h2 : (1 : Int) ≤ ((bs.length - 1 : Nat) : Int)
      · rw [if_pos h2]
        by_cases h3 : (2 : Int) ≤ ((bs.length - 2 : Nat) : Int)
        · rw [if_pos h3]
          by_cases h4 : (4 : Int) ≤ ((bs.length - 4 : Nat) : Int)
          · rw [if_pos h4]
            by_cases h5 : (8 : Int) ≤ ((bs.length - 8 : Nat) : Int)
            · rw [if_pos h5]
              by_cases h6 : (16 : Int) ≤ ((bs.length - 16 : Nat) : Int)
              · rw [if_pos h6, if_neg (by intro e; have := congrArg List.length e; rw [List.length_drop] at this; simp at this; omega)]
                rfl
              · rw [if_neg h6]; rfl
            · rw [if_neg h5]; rfl
          · rw [if_neg h4]; rfl
        · rw [if_neg h3]; rfl
      · rw [if_neg h2]; rfl
    · rw [if_neg h1]
end Go.Proofs.Ytkbihhdgipckgaa
