/- Speck in plain Lean: its rounds, its keys, a block and back. -/
import Derived.Test.YtlbogmpfjkendaaSlice
namespace Go.Proofs.Ytlbogmpfjkendaa
open Go

/-- turned left, right, as the texts turn -/
def rl (x : BitVec 64) (n : Nat) : BitVec 64 := x <<< n ||| x >>> (64 - n)
def rr (x : BitVec 64) (n : Nat) : BitVec 64 := x >>> n ||| x <<< (64 - n)

theorem rl_rr (x : BitVec 64) (n : Nat) (h : n ≤ 64) : rl x (64 - n) = rr x n := by
  unfold rl rr
  rw [show 64 - (64 - n) = n by omega, BitVec.or_comm]

theorem rr_rl (x : BitVec 64) (n : Nat) (h0 : 0 < n) (h : n < 64) : rr (rl x n) n = x := by
  unfold rl rr
  apply BitVec.eq_of_getLsbD_eq
  intro i hi
  simp only [BitVec.getLsbD_or, BitVec.getLsbD_ushiftRight, BitVec.getLsbD_shiftLeft]
  by_cases h1 : n + i < 64
  · have a1 : decide (n + i < 64) = true := by simpa using h1
    have a2 : decide (i < 64 - n) = true := by simp; omega
    have a3 : decide (n + i < n) = false := by simp
    have a4 : n + i - n = i := by omega
    have a5 : x.getLsbD (64 - n + (n + i)) = false := BitVec.getLsbD_of_ge _ _ (by omega)
    simp [a1, a2, a4, a5]
  · have a1 : decide (n + i < 64) = false := by simpa using h1
    have a2 : decide (i < 64 - n) = false := by simp; omega
    have a3 : decide (i - (64 - n) < 64) = true := by simp; omega
    have a4 : decide (i - (64 - n) < n) = true := by simp; omega
    have a5 : 64 - n + (i - (64 - n)) = i := by omega
    have a6 : x.getLsbD (64 - n + (n + i)) = false := BitVec.getLsbD_of_ge _ _ (by omega)
    simp [a1, a2, a3, a4, a5, a6, hi]
theorem rl_rr' (x : BitVec 64) (n : Nat) (h0 : 0 < n) (h : n < 64) : rl (rr x n) n = x := by
  have := rr_rl x (64 - n) (by omega) (by omega)
  rw [← rl_rr x n (by omega)]
  rw [← rl_rr _ (64 - n) (by omega)] at this
  rw [show 64 - (64 - n) = n by omega] at this
  exact this

/-- a round, and back -/
def mix2 (s : Pair) (k : BitVec 64) : Pair := ((rr s.1 8 + s.2) ^^^ k, rl s.2 3 ^^^ ((rr s.1 8 + s.2) ^^^ k))
def unmix (s : Pair) (k : BitVec 64) : Pair := (rl ((s.1 ^^^ k) - rr (s.2 ^^^ s.1) 3) 8, rr (s.2 ^^^ s.1) 3)

theorem xor_back (a b : BitVec 64) : a ^^^ b ^^^ b = a := by rw [BitVec.xor_assoc, BitVec.xor_self, BitVec.xor_zero]
theorem unmix_mix (s : Pair) (k : BitVec 64) : unmix (mix2 s k) k = s := by
  unfold unmix mix2
  simp only [xor_back, rr_rl _ 3 (by omega) (by omega), BitVec.add_sub_cancel, rl_rr' _ 8 (by omega) (by omega)]
theorem mix_unmix (s : Pair) (k : BitVec 64) : mix2 (unmix s k) k = s := by
  unfold unmix mix2
  simp only [rr_rl _ 8 (by omega) (by omega), BitVec.sub_add_cancel, xor_back, rl_rr' _ 3 (by omega) (by omega)]

/-- what the key is before round n -/
def kst (key : Pair) : Nat → Pair
  | 0 => key
  | n + 1 => mix2 (kst key n) (BitVec.ofNat 64 n)
/-- the numbers of the first rounds -/
def keysL (key : Pair) (n : Nat) : List (BitVec 64) := (List.range n).map fun i => (kst key i).2

theorem keysL_length (key : Pair) (n : Nat) : (keysL key n).length = n := by simp [keysL]
theorem keysL_succ (key : Pair) (n : Nat) : keysL key (n + 1) = keysL key n ++ [(kst key n).2] := by simp [keysL, List.range_succ]
theorem keysL_get (key : Pair) (n i : Nat) (h : i < n) : (keysL key n)[i]? = some (kst key i).2 := by simp [keysL, h]

/-- a block behind n rounds -/
def encTo (key b : Pair) : Nat → Pair
  | 0 => b
  | n + 1 => mix2 (encTo key b n) (kst key n).2
def enc2 (key b : Pair) : Pair := encTo key b 32
/-- a block ahead of the rounds from n on -/
def decTo (key b : Pair) : Nat → Pair
  | 0 => b
  | n + 1 => unmix (decTo key b n) (kst key (31 - n)).2
def dec2 (key b : Pair) : Pair := decTo key b 32

theorem dec_enc_to (key b : Pair) : ∀ n, n ≤ 32 → decTo key (enc2 key b) n = encTo key b (32 - n)
  | 0, _ => rfl
  | n + 1, h => by
    show unmix (decTo key (enc2 key b) n) _ = _
    rw [dec_enc_to key b n (by omega), show 32 - n = (31 - n) + 1 by omega, show 32 - (n + 1) = 31 - n by omega]
    exact unmix_mix _ _
theorem dec_enc (key b : Pair) : dec2 key (enc2 key b) = b := by
  have := dec_enc_to key b 32 (Nat.le_refl _)
  exact this
theorem enc_dec_to (key b : Pair) : ∀ n, n ≤ 32 → encTo key (dec2 key b) n = decTo key b (32 - n)
  | 0, _ => rfl
  | n + 1, h => by
    show mix2 (encTo key (dec2 key b) n) _ = _
    rw [enc_dec_to key b n (by omega), show 32 - n = (31 - n) + 1 by omega, show 32 - (n + 1) = 31 - n by omega]
    show mix2 (unmix (decTo key b (31 - n)) (kst key (31 - (31 - n))).2) _ = _
    rw [show 31 - (31 - n) = n by omega]
    exact mix_unmix _ _
theorem enc_dec (key b : Pair) : enc2 key (dec2 key b) = b := enc_dec_to key b 32 (Nat.le_refl _)

theorem enc_inj (key a b : Pair) : (enc2 key a == enc2 key b) = (a == b) := by
  rw [Bool.eq_iff_iff, beq_iff_eq, beq_iff_eq]
  exact ⟨fun h => by rw [← dec_enc key a, h, dec_enc], fun h => by rw [h]⟩
theorem dec_inj (key a b : Pair) : (dec2 key a == dec2 key b) = (a == b) := by
  rw [Bool.eq_iff_iff, beq_iff_eq, beq_iff_eq]
  exact ⟨fun h => by rw [← enc_dec key a, h, enc_dec], fun h => by rw [h]⟩

theorem known_enc : enc2 (1084818905618843912#64, 506097522914230528#64) (7809653424151160096#64, 8388271400802151712#64) = (11987905258827821669#64, 8674213117595946264#64) := by decide +kernel
end Go.Proofs.Ytlbogmpfjkendaa
