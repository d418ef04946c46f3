/- Numbers of 128 digits as two of 64: sum, doubling, product, as the program and its reference have them; the product's laws. Plain: no Go here. -/
import Derived.Test.YtlbogmpfjkendaaField
import Derived.Test.YtlbogmpfjkendaaPairDef
namespace Go.Proofs.Ytlbogmpfjkendaa

def add2 (a b : Pair) : Pair := (a.1 ^^^ b.1, a.2 ^^^ b.2)
def dbl2 (a : Pair) : Pair := (a.1 <<< 1 ||| a.2 >>> 63, if a.1 >>> 63 == 1#64 then a.2 <<< 1 ^^^ 135#64 else a.2 <<< 1)
/-- the digit that round i looks at -/
def bit2 (b : Pair) (i : Nat) : Bool := (if i < 64 then b.1 >>> (63 - i) else b.2 >>> (127 - i)) &&& 1#64 == 1#64
def mulTo2 (a b : Pair) : Nat → Pair
  | 0 => (0#64, 0#64)
  | i + 1 => if bit2 b i then add2 (dbl2 (mulTo2 a b i)) a else dbl2 (mulTo2 a b i)
def mul2 (a b : Pair) : Pair := mulTo2 a b 128

theorem mulTo2_yes {a b : Pair} {i : Nat} (h : bit2 b i = true) : mulTo2 a b (i + 1) = add2 (dbl2 (mulTo2 a b i)) a := by simp [mulTo2, h]
theorem mulTo2_no {a b : Pair} {i : Nat} (h : bit2 b i = false) : mulTo2 a b (i + 1) = dbl2 (mulTo2 a b i) := by simp [mulTo2, h]

def toE (p : Pair) : GF.E := (p.1 ++ p.2 : BitVec (64 + 64))

theorem toE_lsb (p : Pair) (i : Nat) : (toE p).getLsbD i = if i < 64 then p.2.getLsbD i else p.1.getLsbD (i - 64) := by
  unfold toE; exact BitVec.getLsbD_append

theorem toE_inj {a b : Pair} (h : toE a = toE b) : a = b := by
  have h1 : a.1 = b.1 := by
    apply BitVec.eq_of_getLsbD_eq
    intro i hi
    have := congrArg (fun e : GF.E => e.getLsbD (i + 64)) h
    simp only [toE_lsb] at this
    rwa [if_neg (by omega), if_neg (by omega), Nat.add_sub_cancel] at this
  have h2 : a.2 = b.2 := by
    apply BitVec.eq_of_getLsbD_eq
    intro i hi
    have := congrArg (fun e : GF.E => e.getLsbD i) h
    simp only [toE_lsb] at this
    rwa [if_pos hi, if_pos hi] at this
  exact Prod.ext h1 h2

theorem toE_add (a b : Pair) : toE (add2 a b) = toE a ^^^ toE b := by
  apply BitVec.eq_of_getLsbD_eq
  intro i hi
  rw [BitVec.getLsbD_xor, toE_lsb, toE_lsb, toE_lsb]
  unfold add2
  by_cases h : i < 64 <;> simp [h]

theorem top_is (x : BitVec 64) : (x >>> 63 == 1#64) = x.getLsbD 63 := by
  have h : (x >>> 63 == 1#64) = decide (9223372036854775808 ≤ x.toNat) := by
    have hx := x.isLt
    rw [Bool.eq_iff_iff, beq_iff_eq, decide_eq_true_iff]
    constructor
    · intro h
      have := congrArg BitVec.toNat h
      simp only [BitVec.toNat_ushiftRight, Nat.shiftRight_eq_div_pow] at this
      simp at this
      omega
    · intro h
      apply BitVec.eq_of_toNat_eq
      simp only [BitVec.toNat_ushiftRight, Nat.shiftRight_eq_div_pow]
      simp
      omega
  rw [h, ← BitVec.msb_eq_getLsbD_last x, BitVec.msb_eq_decide]

theorem low_lit (i : Nat) (h : 64 ≤ i) : (135#128).getLsbD i = false := by
  rw [BitVec.getLsbD_ofNat]
  have : Nat.testBit 135 i = false := Nat.testBit_lt_two_pow (Nat.lt_of_lt_of_le (by decide : 135 < 2 ^ 64) (Nat.pow_le_pow_right (by decide) h))
  rw [this, Bool.and_false]

theorem lit_lit (i : Nat) (h : i < 64) : (135#64).getLsbD i = (135#128).getLsbD i := by
  rw [BitVec.getLsbD_ofNat, BitVec.getLsbD_ofNat]
  simp [h]; omega

theorem toE_dbl (a : Pair) : toE (dbl2 a) = GF.dbl (toE a) := by
  apply BitVec.eq_of_getLsbD_eq
  intro i hi
  unfold GF.dbl
  rw [BitVec.getLsbD_xor, BitVec.getLsbD_shiftLeft, toE_lsb, toE_lsb, toE_lsb]
  rw [if_neg (by omega : ¬ 127 < 64)]
  unfold dbl2
  rw [top_is]
  have hi2 : decide (i < 128) = true := by simpa using hi
  show (if i < 64 then (if a.1.getLsbD 63 = true then a.2 <<< 1 ^^^ 135#64 else a.2 <<< 1).getLsbD i else (a.1 <<< 1 ||| a.2 >>> 63).getLsbD (i - 64)) =
    ((decide (i < 128) && !decide (i < 1) && (if i - 1 < 64 then a.2.getLsbD (i - 1) else a.1.getLsbD (i - 1 - 64))) ^^ (if a.1.getLsbD 63 = true then 135#128 else 0#128).getLsbD i)
  rw [hi2]
  by_cases h : i < 64
  · rw [if_pos h, if_pos (by omega : i - 1 < 64)]
    by_cases c : a.1.getLsbD 63 = true
    · rw [if_pos c, if_pos c, BitVec.getLsbD_xor, BitVec.getLsbD_shiftLeft, lit_lit i h]
      simp [h]
    · rw [if_neg c, if_neg c, BitVec.getLsbD_shiftLeft]
      simp [h]
  · rw [if_neg h]
    have h0 : (if a.1.getLsbD 63 = true then 135#128 else 0#128).getLsbD i = false := by
      by_cases c : a.1.getLsbD 63 = true
      · rw [if_pos c]; exact low_lit i (by omega)
      · rw [if_neg c]; simp
    rw [h0, BitVec.getLsbD_or, BitVec.getLsbD_shiftLeft, BitVec.getLsbD_ushiftRight]
    have d1 : decide (i < 1) = false := by simp; omega
    have d2 : decide (i - 64 < 64) = true := by simp; omega
    by_cases e : i = 64
    · subst e; simp
    · have d3 : decide (i - 64 < 1) = false := by simp; omega
      rw [if_neg (by omega : ¬ i - 1 < 64), d1, d2, d3, show i - 64 - 1 = i - 1 - 64 by omega, BitVec.getLsbD_of_ge a.2 (63 + (i - 64)) (by omega)]
      simp

theorem bit_one (x : BitVec 64) (n : Nat) : (x >>> n &&& 1#64 == 1#64) = x.getLsbD n := by
  rw [BitVec.and_one_eq_setWidth_ofBool_getLsbD, BitVec.getLsbD_ushiftRight]
  cases h : x.getLsbD (n + 0) <;> simp_all <;> decide

theorem bit_is (b : Pair) (i : Nat) (hi : i < 128) : bit2 b i = (toE b).getLsbD (127 - i) := by
  rw [toE_lsb]
  unfold bit2
  by_cases h : i < 64
  · rw [if_pos h, if_neg (by omega), bit_one, show 127 - i - 64 = 63 - i by omega]
  · rw [if_neg h, if_pos (by omega), bit_one]

theorem toE_mulTo (a b : Pair) (i : Nat) (hi : i ≤ 128) : toE (mulTo2 a b i) = GF.mulTo (toE a) (toE b) i := by
  induction i with
  | zero => show toE (0#64, 0#64) = 0#128; decide
  | succ i ih =>
    have e := bit_is b i (by omega)
    simp only [mulTo2, GF.mulTo]
    rw [← e]
    cases bit2 b i
    · simp [toE_dbl, ih (by omega)]
    · simp [toE_add, toE_dbl, ih (by omega)]

theorem toE_mul (a b : Pair) : toE (mul2 a b) = GF.mul (toE a) (toE b) := toE_mulTo a b 128 (Nat.le_refl _)

theorem toE_zero : toE (0#64, 0#64) = 0#128 := by decide
theorem toE_one : toE (0#64, 1#64) = 1#128 := by decide
theorem toE_two : toE (0#64, 2#64) = 2#128 := by decide

theorem mul2_comm (a b : Pair) : mul2 a b = mul2 b a := toE_inj (by rw [toE_mul, toE_mul, GF.mul_comm])
theorem mul2_assoc (a b c : Pair) : mul2 (mul2 a b) c = mul2 a (mul2 b c) := toE_inj (by rw [toE_mul, toE_mul, toE_mul, toE_mul, GF.mul_assoc])
theorem mul2_add (a b c : Pair) : mul2 a (add2 b c) = add2 (mul2 a b) (mul2 a c) := toE_inj (by rw [toE_mul, toE_add, toE_add, toE_mul, toE_mul, GF.mul_xor_r])
theorem mul2_one (a : Pair) : mul2 a (0#64, 1#64) = a := toE_inj (by rw [toE_mul, toE_one, GF.mul_one])
theorem mul2_zero (a : Pair) : mul2 a (0#64, 0#64) = (0#64, 0#64) := toE_inj (by rw [toE_mul, toE_zero, GF.mul_zero])
theorem zero_mul2 (a : Pair) : mul2 (0#64, 0#64) a = (0#64, 0#64) := by rw [mul2_comm, mul2_zero]
theorem mul2_none (a b : Pair) : mul2 a b = (0#64, 0#64) ↔ a = (0#64, 0#64) ∨ b = (0#64, 0#64) := by
  constructor
  · intro h
    have h1 := congrArg toE h
    rw [toE_mul, toE_zero] at h1
    rcases GF.mul_eq_zero _ _ h1 with h2 | h2
    · exact .inl (toE_inj (by rw [h2, toE_zero]))
    · exact .inr (toE_inj (by rw [h2, toE_zero]))
  · rintro (h | h)
    · rw [h, zero_mul2]
    · rw [h, mul2_zero]
theorem mul2_two (a : Pair) : mul2 a (0#64, 2#64) = dbl2 a := toE_inj (by rw [toE_mul, toE_two, toE_dbl, GF.dbl_eq])
theorem two_mul2 (a : Pair) : mul2 (0#64, 2#64) a = dbl2 a := by rw [mul2_comm, mul2_two]
theorem add2_self (a : Pair) : add2 a a = (0#64, 0#64) := by unfold add2; simp
theorem add2_comm (a b : Pair) : add2 a b = add2 b a := by unfold add2; simp [BitVec.xor_comm]

/-! powers of two -/
def power2 (i : Nat) : Pair := if 64 ≤ i then (1#64 <<< (i - 64), 0#64) else (0#64, 1#64 <<< i)

theorem toE_power (i : Nat) (hi : i < 128) : toE (power2 i) = GF.pw2 i := by
  apply BitVec.eq_of_getLsbD_eq
  intro j hj
  rw [toE_lsb]
  unfold GF.pw2 power2
  rw [BitVec.getLsbD_twoPow]
  have hone : ∀ m n : Nat, n < 64 → (1#64 <<< m).getLsbD n = decide (m = n) := by
    intro m n hn
    rw [BitVec.getLsbD_shiftLeft, BitVec.getLsbD_one]
    by_cases e : m = n
    · subst e; simp [hn]
    · have : decide (n - m = 0) = true → decide (n < m) = true := by simp; omega
      simp [hn, e]; omega
  by_cases h : 64 ≤ i
  · rw [if_pos h]
    by_cases h2 : j < 64
    · rw [if_pos h2]; simp; omega
    · rw [if_neg h2, hone _ _ (by omega)]
      have : decide (i - 64 = j - 64) = decide (i = j) := by rw [decide_eq_decide]; omega
      rw [this]; simp; omega
  · rw [if_neg h]
    by_cases h2 : j < 64
    · rw [if_pos h2, hone _ _ h2]; simp; omega
    · rw [if_neg h2]; simp; omega

theorem power_mul (i k : Nat) (hi : i < 128) (hk : k < 128) (h : i + k < 128) : mul2 (power2 i) (power2 k) = power2 (i + k) := by
  apply toE_inj
  rw [toE_mul, toE_power i hi, toE_power k hk, toE_power _ h, GF.mul_pw2 _ _ hk, ← GF.up_one i hi, GF.up_up, ← GF.up_one _ h, Nat.add_comm]

theorem up_round : GF.up 128 1#128 = toE (0#64, 135#64) := by
  show GF.dbl (GF.up 127 1#128) = _
  rw [GF.up_one 127 (by omega)]
  decide +kernel

theorem power_round (i k : Nat) (hi : i < 128) (hk : k < 128) (h : 128 ≤ i + k) : mul2 (power2 i) (power2 k) = mul2 (power2 (i + k - 128)) (0#64, 135#64) := by
  apply toE_inj
  have hn : i + k - 128 < 128 := by omega
  have e : k + i = (i + k - 128) + 128 := by omega
  rw [toE_mul, toE_mul, toE_power i hi, toE_power k hk, toE_power _ hn, GF.mul_comm (GF.pw2 (i + k - 128)), GF.mul_pw2 _ _ hk, GF.mul_pw2 _ _ hn, ← GF.up_one i hi, GF.up_up, e, ← GF.up_up, up_round]

end Go.Proofs.Ytlbogmpfjkendaa
