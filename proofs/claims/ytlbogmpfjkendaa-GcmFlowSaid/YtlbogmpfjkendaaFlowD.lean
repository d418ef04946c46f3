/- The flow in plain Lean: the key of a number that is used once; bytes by a key; byte by byte. -/
import Derived.Test.YtlbogmpfjkendaaSpeckD
import Derived.Test.YtlbogmpfjkendaaWireB
import Derived.Test.YtlbogmpfjkendaaNnD
namespace Go.Proofs.Ytlbogmpfjkendaa
open Go

def Nn.block (n : Nn) : Pair := (BitVec.setWidth 64 n.epoch <<< 32 ||| BitVec.setWidth 64 n.slot, n.version)
def sub2 (key : Pair) (n : Nn) : Pair := enc2 key n.block

/-- sixteen bytes by a key, k times -/
def flowTo (sub : Pair) : Nat → List UInt8
  | 0 => []
  | k + 1 => flowTo sub k ++ pairB (enc2 sub (BitVec.ofNat 64 (k + 1), 0#64))
def flowB (sub : Pair) (n : Nat) : List UInt8 := (flowTo sub ((n + 15) / 16)).take n

theorem flowTo_length (sub : Pair) : ∀ k, (flowTo sub k).length = 16 * k
  | 0 => rfl
  | k + 1 => by rw [flowTo, List.length_append, flowTo_length sub k, pairB_length]; omega
theorem flowB_length (sub : Pair) (n : Nat) : (flowB sub n).length = n := by
  unfold flowB; rw [List.length_take, flowTo_length]; omega
theorem flowTo_take (sub : Pair) : ∀ k j, j ≤ k → (flowTo sub k).take (16 * j) = flowTo sub j
  | 0, j, h => by obtain rfl : j = 0 := by omega
                  rfl
  | k + 1, j, h => by
    by_cases hj : j = k + 1
    · subst hj
      exact List.take_of_length_le (by rw [flowTo_length]; exact Nat.le_refl _)
    · rw [flowTo, List.take_append_of_le_length (by rw [flowTo_length]; omega)]
      exact flowTo_take sub k j (by omega)
theorem flowB_take (sub : Pair) (a b : Nat) (h : a ≤ b) : (flowB sub b).take a = flowB sub a := by
  unfold flowB
  rw [List.take_take, Nat.min_eq_left h, ← flowTo_take sub ((b + 15) / 16) ((a + 15) / 16) (by omega), List.take_take, Nat.min_eq_left (by omega)]

theorem block_inj (a b : Nn) : a.block = b.block ↔ a = b := by
  constructor
  · intro h
    obtain ⟨ea, sa, va⟩ := a
    obtain ⟨eb, sb, vb⟩ := b
    simp only [Nn.block, Prod.mk.injEq] at h
    obtain ⟨h1, rfl⟩ := h
    have hl : ∀ (e s : BitVec 32) (i : Nat), (BitVec.setWidth 64 e <<< 32 ||| BitVec.setWidth 64 s).getLsbD i = if i < 32 then s.getLsbD i else decide (i < 64) && e.getLsbD (i - 32) := by
      intro e s i
      simp only [BitVec.getLsbD_or, BitVec.getLsbD_shiftLeft, BitVec.getLsbD_setWidth]
      by_cases hi : i < 32
      · simp [hi]; omega
      · have h2 : s.getLsbD i = false := BitVec.getLsbD_of_ge _ _ (by omega)
        have h3 : i < 64 → i - 32 < 64 := by omega
        by_cases h4 : i < 64
        · simp [hi, h2, h4, h3 h4]
        · simp [hi, h2, h4]
    have hs : sa = sb := by
      apply BitVec.eq_of_getLsbD_eq
      intro i hi
      have := congrArg (fun x => x.getLsbD i) h1
      simp only [hl, hi, if_true] at this
      exact this
    have he : ea = eb := by
      apply BitVec.eq_of_getLsbD_eq
      intro i hi
      have := congrArg (fun x => x.getLsbD (i + 32)) h1
      have h3 : ¬ i + 32 < 32 := by omega
      have h4 : i + 32 < 64 := by omega
      simp only [hl, h3, if_false, h4, decide_true, Bool.true_and, Nat.add_sub_cancel] at this
      exact this
    rw [hs, he]
  · rintro rfl; rfl
theorem sub_inj (key : Pair) (a b : Nn) : (sub2 key a == sub2 key b) = decide (a = b) := by
  unfold sub2
  rw [enc_inj]
  by_cases h : a = b
  · subst h; simp
  · have : a.block ≠ b.block := fun e => h ((block_inj a b).1 e)
    simp [h, this]

def xorB (a b : List UInt8) : List UInt8 := List.zipWith (· ^^^ ·) a b
theorem xorB_xorB (a b : List UInt8) : xorB (xorB a b) b = a.take (min a.length b.length) := by
  induction a generalizing b with
  | nil => simp [xorB]
  | cons x a ih =>
    cases b with
    | nil => simp [xorB]
    | cons y b =>
      have := ih b
      unfold xorB at this ⊢
      simp only [List.zipWith_cons_cons, this, List.length_cons, Nat.succ_min_succ, List.take_succ_cons]
      congr 1
      rw [UInt8.xor_assoc, UInt8.xor_self, UInt8.xor_zero]

end Go.Proofs.Ytlbogmpfjkendaa
