/- Numbers as bytes and back: the laws. Plain, but for the machine's own word for 'is less' of bytes. -/
import Derived.Test.YtlbogmpfjkendaaWireD
import GoSem.Op.String
namespace Go.Proofs.Ytlbogmpfjkendaa
open Go

def natB : List UInt8 → Nat
  | [] => 0
  | c :: bs => c.toNat * 256 ^ bs.length + natB bs

theorem natB_lt (bs : List UInt8) : natB bs < 256 ^ bs.length := by
  induction bs with
  | nil => simp [natB]
  | cons c bs ih =>
    have h := c.toNat_lt
    simp only [natB, List.length_cons, Nat.pow_succ]
    have h2 : c.toNat ≤ 255 := by omega
    have h3 : c.toNat * 256 ^ bs.length ≤ 255 * 256 ^ bs.length := Nat.mul_le_mul_right _ h2
    omega

theorem natB_inj : ∀ (a b : List UInt8), a.length = b.length → natB a = natB b → a = b
  | [], [], _, _ => rfl
  | [], _ :: _, h, _ => by simp at h
  | _ :: _, [], h, _ => by simp at h
  | c :: a, d :: b, hl, h => by
    simp only [List.length_cons, Nat.add_right_cancel_iff] at hl
    simp only [natB, hl] at h
    have h1 := natB_lt a
    have h2 := natB_lt b
    rw [hl] at h1
    have hp : 0 < 256 ^ b.length := Nat.pow_pos (by decide)
    have hc : c.toNat = d.toNat := by
      have e1 : (c.toNat * 256 ^ b.length + natB a) / 256 ^ b.length = c.toNat := by
        rw [Nat.mul_comm, Nat.mul_add_div hp, Nat.div_eq_of_lt h1]; rfl
      have e2 : (d.toNat * 256 ^ b.length + natB b) / 256 ^ b.length = d.toNat := by
        rw [Nat.mul_comm, Nat.mul_add_div hp, Nat.div_eq_of_lt h2]; rfl
      rw [← e1, ← e2, h]
    rw [hc] at h
    have hn : natB a = natB b := by omega
    rw [natB_inj a b hl hn, UInt8.toNat_inj.1 hc]

theorem natB_snoc (bs : List UInt8) (c : UInt8) : natB (bs ++ [c]) = natB bs * 256 + c.toNat := by
  induction bs with
  | nil => simp [natB]
  | cons d bs ih =>
    simp only [List.cons_append, natB, ih, List.length_append, List.length_cons, List.length_nil, Nat.pow_succ, Nat.pow_zero]
    rw [Nat.add_mul, Nat.mul_assoc]; omega

theorem getB_toNat (bs : List UInt8) (h : bs.length ≤ 8) : (getB bs).toNat = natB bs := by
  have main : ∀ n, n ≤ 8 → ∀ bs : List UInt8, bs.length = n → (getB bs).toNat = natB bs := by
    intro n
    induction n with
    | zero => intro _ bs hb; have : bs = [] := List.eq_nil_of_length_eq_zero hb; subst this; rfl
    | succ n ih =>
      intro hn bs hb
      obtain ⟨bs', c, rfl⟩ : ∃ bs' c, bs = bs' ++ [c] := by
        have hne : bs ≠ [] := by intro e; rw [e] at hb; simp at hb
        exact ⟨bs.dropLast, bs.getLast hne, (List.dropLast_concat_getLast hne).symm⟩
      have hl : bs'.length = n := by simp at hb; exact hb
      have e := ih (by omega) bs' hl
      have hlt := natB_lt bs'
      rw [hl] at hlt
      have h7 : 256 ^ n ≤ 256 ^ 7 := Nat.pow_le_pow_right (by decide) (by omega)
      have hc := c.toNat_lt
      rw [getB_snoc, natB_snoc]
      have hs : (getB bs' <<< 8).toNat = natB bs' * 256 := by
        rw [BitVec.toNat_shiftLeft, Nat.shiftLeft_eq, e]
        have : natB bs' * 2 ^ 8 < 2 ^ 64 := by omega
        rw [Nat.mod_eq_of_lt this]
      rw [BitVec.toNat_or, hs, BitVec.toNat_ofNat, Nat.mod_eq_of_lt (by omega)]
      rw [show natB bs' * 256 = 2 ^ 8 * natB bs' by omega]
      exact (Nat.two_pow_add_eq_or_of_lt (by omega) _).symm
  exact main bs.length h bs rfl

theorem byteAt_toNat (v : BitVec 64) (n i : Nat) : (byteAt v n i).toNat = v.toNat / 256 ^ (n - 1 - i) % 256 := by
  unfold byteAt
  rw [UInt8.toNat_ofNat', Nat.shiftRight_eq_div_pow]
  have : (2 : Nat) ^ (8 * (n - 1 - i)) = 256 ^ (n - 1 - i) := by rw [Nat.pow_mul]
  rw [this]

theorem putB_succ (v : BitVec 64) (n : Nat) : putB v (n + 1) = byteAt v (n + 1) 0 :: putB v n := by
  unfold putB
  rw [List.range_succ_eq_map, List.map_cons, List.map_map]
  congr 1
  apply List.map_congr_left
  intro i _
  show byteAt v (n + 1) (i + 1) = byteAt v n i
  unfold byteAt
  rw [show n + 1 - 1 - (i + 1) = n - 1 - i by omega]

theorem natB_putB (v : BitVec 64) (n : Nat) : natB (putB v n) = v.toNat % 256 ^ n := by
  induction n with
  | zero => show 0 = v.toNat % 1; omega
  | succ n ih =>
    rw [putB_succ]
    simp only [natB]
    rw [putB_length, ih, byteAt_toNat, show n + 1 - 1 - 0 = n by omega, Nat.pow_succ, Nat.mod_mul, Nat.mul_comm]
    omega

theorem getB_putB (v : BitVec 64) (n : Nat) (hn : n ≤ 8) : (getB (putB v n)).toNat = v.toNat % 256 ^ n := by
  rw [getB_toNat _ (by rw [putB_length]; exact hn), natB_putB]

theorem putB_getB (bs : List UInt8) (h : bs.length ≤ 8) : putB (getB bs) bs.length = bs := by
  refine natB_inj _ _ (putB_length _ _) ?_
  rw [natB_putB, getB_toNat bs h, Nat.mod_eq_of_lt (natB_lt bs)]

theorem getB_putB8 (v : BitVec 64) : getB (putB v 8) = v := by
  apply BitVec.eq_of_toNat_eq
  rw [getB_putB v 8 (Nat.le_refl _)]
  exact Nat.mod_eq_of_lt v.isLt

theorem putB8_inj (a b : BitVec 64) : (putB a 8 == putB b 8) = (a == b) := by
  rw [Bool.eq_iff_iff, beq_iff_eq, beq_iff_eq]
  exact ⟨fun h => by rw [← getB_putB8 a, h, getB_putB8], fun h => by rw [h]⟩

theorem less_natB : ∀ (a b : List UInt8), a.length = b.length → Op.bytesLess a b = decide (natB a < natB b)
  | [], [], _ => by simp [Op.bytesLess, natB]
  | [], _ :: _, h => by simp at h
  | _ :: _, [], h => by simp at h
  | c :: a, d :: b, hl => by
    simp only [List.length_cons, Nat.add_right_cancel_iff] at hl
    simp only [Op.bytesLess, natB, hl, less_natB a b hl]
    have h1 := natB_lt a
    have h2 := natB_lt b
    rw [hl] at h1
    generalize 256 ^ b.length = p at *
    rw [Bool.eq_iff_iff]
    simp only [Bool.or_eq_true, Bool.and_eq_true, decide_eq_true_eq, beq_iff_eq, UInt8.lt_iff_toNat_lt]
    constructor
    · rintro (h | ⟨h, h3⟩)
      · have : (c.toNat + 1) * p ≤ d.toNat * p := Nat.mul_le_mul_right _ h
        rw [Nat.add_mul] at this; omega
      · subst h; omega
    · intro h
      rcases Nat.lt_trichotomy c.toNat d.toNat with h3 | h3 | h3
      · exact .inl h3
      · have : c = d := UInt8.toNat_inj.1 h3
        subst this
        exact .inr ⟨rfl, by omega⟩
      · have : (d.toNat + 1) * p ≤ c.toNat * p := Nat.mul_le_mul_right _ h3
        rw [Nat.add_mul] at this; omega

theorem putB8_less (a b : BitVec 64) : Op.bytesLess (putB a 8) (putB b 8) = decide (a < b) := by
  rw [less_natB _ _ (by rw [putB_length, putB_length]), natB_putB, natB_putB, decide_eq_decide, BitVec.lt_def]
  rw [Nat.mod_eq_of_lt a.isLt, Nat.mod_eq_of_lt b.isLt]

/-- the lowest n bytes of a number -/
theorem get_low (v : BitVec 64) (n : Nat) (hn : n ≤ 7) : getB (putB v n) = v &&& ((1#64 <<< (8 * n)) - 1#64) := by
  apply BitVec.eq_of_toNat_eq
  rw [getB_putB v n (by omega), BitVec.toNat_and]
  have e : ((1#64 <<< (8 * n)) - 1#64).toNat = 2 ^ (8 * n) - 1 := by
    have h1 : (2 : Nat) ^ (8 * n) ≤ 2 ^ 56 := Nat.pow_le_pow_right (by decide) (by omega)
    have h0 : 0 < (2 : Nat) ^ (8 * n) := Nat.pow_pos (by decide)
    rw [BitVec.toNat_sub, BitVec.toNat_shiftLeft, Nat.shiftLeft_eq]
    have e1 : (1#64).toNat = 1 := rfl
    rw [e1, Nat.one_mul]
    generalize (2 : Nat) ^ (8 * n) = p at *
    rw [Nat.mod_eq_of_lt (by omega : p < 2 ^ 64)]
    omega
  rw [e, Nat.and_two_pow_sub_one_eq_mod, Nat.pow_mul]

end Go.Proofs.Ytlbogmpfjkendaa
