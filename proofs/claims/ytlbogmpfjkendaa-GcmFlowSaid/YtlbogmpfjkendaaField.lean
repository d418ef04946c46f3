/- Numbers of 128 binary digits without carry, reduced by power 128 = power 7, 2, 1 and 0: the product's laws (order, brackets, sums, one, none). Plain: no Go here. -/
namespace Go.Proofs.Ytlbogmpfjkendaa.GF

abbrev E := BitVec 128

def dbl (a : E) : E := (a <<< 1) ^^^ (if a.getLsbD 127 then 135#128 else 0#128)

/-- the product's first rounds: 'out = dbl out; if the digit is there, out += a', from the highest digit on -/
def mulTo (a b : E) : Nat → E
  | 0 => 0#128
  | i + 1 => dbl (mulTo a b i) ^^^ (if b.getLsbD (127 - i) then a else 0#128)

def mul (a b : E) : E := mulTo a b 128

def pw2 (k : Nat) : E := BitVec.twoPow 128 k

theorem dbl_zero : dbl 0#128 = 0#128 := by decide

theorem ite_xor (p q : Bool) (a : E) : (if (p ^^ q) = true then a else 0#128) = (if p = true then a else 0#128) ^^^ (if q = true then a else 0#128) := by
  cases p <;> cases q <;> simp

theorem dbl_xor (a b : E) : dbl (a ^^^ b) = dbl a ^^^ dbl b := by
  unfold dbl
  rw [BitVec.getLsbD_xor, ite_xor, BitVec.shiftLeft_xor_distrib]
  ac_rfl

theorem ite_xor_r (p : Bool) (a b : E) : (if p = true then a ^^^ b else 0#128) = (if p = true then a else 0#128) ^^^ (if p = true then b else 0#128) := by
  cases p <;> simp

theorem dbl_ite (p : Bool) (a : E) : dbl (if p = true then a else 0#128) = if p = true then dbl a else 0#128 := by
  cases p <;> simp [dbl_zero]

theorem mulTo_xor_l (a a' b : E) (i : Nat) : mulTo (a ^^^ a') b i = mulTo a b i ^^^ mulTo a' b i := by
  induction i with
  | zero => simp [mulTo]
  | succ i ih => simp only [mulTo]; rw [ih, dbl_xor, ite_xor_r]; ac_rfl

theorem mulTo_xor_r (a b b' : E) (i : Nat) : mulTo a (b ^^^ b') i = mulTo a b i ^^^ mulTo a b' i := by
  induction i with
  | zero => simp [mulTo]
  | succ i ih => simp only [mulTo]; rw [ih, dbl_xor, BitVec.getLsbD_xor, ite_xor]; ac_rfl

theorem mulTo_dbl (a b : E) (i : Nat) : mulTo (dbl a) b i = dbl (mulTo a b i) := by
  induction i with
  | zero => simp [mulTo, dbl_zero]
  | succ i ih => simp only [mulTo]; rw [ih, dbl_xor, dbl_ite]

theorem mul_xor_l (a a' b : E) : mul (a ^^^ a') b = mul a b ^^^ mul a' b := mulTo_xor_l a a' b 128
theorem mul_xor_r (a b b' : E) : mul a (b ^^^ b') = mul a b ^^^ mul a b' := mulTo_xor_r a b b' 128
theorem mul_dbl_l (a b : E) : mul (dbl a) b = dbl (mul a b) := mulTo_dbl a b 128

/-- so often doubled -/
def up : Nat → E → E
  | 0, a => a
  | k + 1, a => dbl (up k a)

theorem up_xor (k : Nat) (a b : E) : up k (a ^^^ b) = up k a ^^^ up k b := by
  induction k with
  | zero => rfl
  | succ k ih => simp only [up]; rw [ih, dbl_xor]

theorem up_up (j k : Nat) (a : E) : up j (up k a) = up (j + k) a := by
  induction j with
  | zero => simp [up]
  | succ j ih => rw [Nat.add_right_comm]; simp only [up]; rw [ih]

theorem mulTo_pw2 (a : E) (k : Nat) (hk : k < 128) (i : Nat) (hi : i ≤ 128) :
    mulTo a (pw2 k) i = if i + k < 128 then 0#128 else up (i + k - 128) a := by
  induction i with
  | zero => simp [mulTo, hk]
  | succ i ih =>
    simp only [mulTo]
    rw [ih (by omega)]
    unfold pw2
    rw [BitVec.getLsbD_twoPow]
    by_cases h1 : i + 1 + k < 128
    · rw [if_pos h1, if_pos (by omega), dbl_zero]
      have : decide (k = 127 - i) = false := by simp; omega
      simp [this]
    · by_cases h2 : i + k < 128
      · rw [if_neg h1, if_pos h2, dbl_zero]
        have e : k = 127 - i := by omega
        have e2 : i + 1 + k - 128 = 0 := by omega
        rw [e2]
        simp [e, up]
        omega
      · rw [if_neg h1, if_neg h2]
        have e2 : i + 1 + k - 128 = (i + k - 128) + 1 := by omega
        rw [e2]
        have : decide (k = 127 - i) = false := by simp; omega
        simp [this, up]

theorem mul_pw2 (a : E) (k : Nat) (hk : k < 128) : mul a (pw2 k) = up k a := by
  unfold mul
  rw [mulTo_pw2 a k hk 128 (Nat.le_refl _), if_neg (by omega), show 128 + k - 128 = k by omega]

/-- two sums of digits that are one at each power are one -/
theorem ext_pw2 {f g : E → E} (hf : ∀ a b, f (a ^^^ b) = f a ^^^ f b) (hg : ∀ a b, g (a ^^^ b) = g a ^^^ g b)
    (h : ∀ k, k < 128 → f (pw2 k) = g (pw2 k)) (a : E) : f a = g a := by
  have hf0 : f 0#128 = 0#128 := by have := hf 0#128 0#128; simpa using this
  have hg0 : g 0#128 = 0#128 := by have := hg 0#128 0#128; simpa using this
  have main : ∀ n, n ≤ 128 → ∀ a : E, (∀ i, n ≤ i → a.getLsbD i = false) → f a = g a := by
    intro n
    induction n with
    | zero =>
      intro _ a ha
      have : a = 0#128 := by apply BitVec.eq_of_getLsbD_eq; intro i _; rw [ha i (Nat.zero_le _)]; simp
      rw [this, hf0, hg0]
    | succ n ih =>
      intro hn a ha
      by_cases hb : a.getLsbD n = true
      · have e : a = pw2 n ^^^ (pw2 n ^^^ a) := by rw [← BitVec.xor_assoc, BitVec.xor_self, BitVec.zero_xor]
        have hr : f (pw2 n ^^^ a) = g (pw2 n ^^^ a) := by
          apply ih (by omega)
          intro i hi
          rw [BitVec.getLsbD_xor, pw2, BitVec.getLsbD_twoPow]
          by_cases he : n = i
          · subst he; simp [hb]; omega
          · rw [ha i (by omega)]; simp [he]
        rw [e, hf, hg, h n (by omega), hr]
      · apply ih (by omega)
        intro i hi
        by_cases he : n = i
        · subst he; simpa using hb
        · exact ha i (by omega)
  exact main 128 (Nat.le_refl _) a (fun i hi => BitVec.getLsbD_of_ge a i hi)

theorem up_one (k : Nat) (hk : k < 128) : up k 1#128 = pw2 k := by
  induction k with
  | zero => rfl
  | succ k ih =>
    simp only [up]
    rw [ih (by omega)]
    unfold dbl pw2
    rw [BitVec.getLsbD_twoPow]
    have : decide (k = 127) = false := by simp; omega
    simp only [this, Bool.and_false, Bool.false_eq_true, if_false, BitVec.xor_zero]
    apply BitVec.eq_of_getLsbD_eq
    intro i hi
    rw [BitVec.getLsbD_shiftLeft, BitVec.getLsbD_twoPow, BitVec.getLsbD_twoPow]
    by_cases h0 : i < 1
    · simp [h0]; omega
    · have : decide (k = i - 1) = decide (k + 1 = i) := by rw [decide_eq_decide]; omega
      have h3 : decide (i < 1) = false := by simp; omega
      have h5 : decide (i < 128) = true := by simp; omega
      have h6 : decide (k < 128) = true := by simp; omega
      have h7 : decide (k + 1 < 128) = true := by simp; omega
      simp only [this, h3, h5, h6, h7, Bool.not_false, Bool.true_and, Bool.and_true]

theorem one_mul (b : E) : mul 1#128 b = b := by
  refine ext_pw2 (f := fun b => mul 1#128 b) (g := fun b => b) (fun a b => mul_xor_r _ a b) (fun _ _ => rfl) ?_ b
  intro k hk
  show mul 1#128 (pw2 k) = pw2 k
  rw [mul_pw2 _ _ hk, up_one k hk]

theorem mul_comm (a b : E) : mul a b = mul b a := by
  refine ext_pw2 (f := fun a => mul a b) (g := fun a => mul b a) (fun x y => mul_xor_l x y b) (fun x y => mul_xor_r b x y) ?_ a
  intro i hi
  refine ext_pw2 (f := fun b => mul (pw2 i) b) (g := fun b => mul b (pw2 i)) (fun x y => mul_xor_r _ x y) (fun x y => mul_xor_l x y _) ?_ b
  intro j hj
  show mul (pw2 i) (pw2 j) = mul (pw2 j) (pw2 i)
  rw [mul_pw2 _ _ hj, mul_pw2 _ _ hi, ← up_one i hi, ← up_one j hj, up_up, up_up, Nat.add_comm]

theorem mul_dbl_r (a b : E) : mul a (dbl b) = dbl (mul a b) := by
  rw [mul_comm, mul_dbl_l, mul_comm]

theorem mul_up_r (k : Nat) (a b : E) : mul a (up k b) = up k (mul a b) := by
  induction k with
  | zero => rfl
  | succ k ih => simp only [up]; rw [mul_dbl_r, ih]

theorem mul_assoc (a b c : E) : mul (mul a b) c = mul a (mul b c) := by
  refine ext_pw2 (f := fun c => mul (mul a b) c) (g := fun c => mul a (mul b c)) (fun x y => mul_xor_r _ x y) (fun x y => ?_) ?_ c
  · show mul a (mul b (x ^^^ y)) = mul a (mul b x) ^^^ mul a (mul b y)
    rw [mul_xor_r, mul_xor_r]
  · intro k hk
    show mul (mul a b) (pw2 k) = mul a (mul b (pw2 k))
    rw [mul_pw2 _ _ hk, mul_pw2 _ _ hk, mul_up_r]

theorem mul_one (a : E) : mul a 1#128 = a := by rw [mul_comm, one_mul]
theorem mul_zero (a : E) : mul a 0#128 = 0#128 := by have := mul_xor_r a 0#128 0#128; simpa using this
theorem zero_mul (a : E) : mul 0#128 a = 0#128 := by rw [mul_comm, mul_zero]

/-! no product of two that are not none is none -/

def sq (a : E) : E := mul a a

theorem sq_xor (a b : E) : sq (a ^^^ b) = sq a ^^^ sq b := by
  unfold sq
  rw [mul_xor_l, mul_xor_r, mul_xor_r, mul_comm b a]
  have : mul a a ^^^ mul a b ^^^ (mul a b ^^^ mul b b) = mul a a ^^^ (mul a b ^^^ mul a b) ^^^ mul b b := by ac_rfl
  rw [this, BitVec.xor_self, BitVec.xor_zero]

theorem sq_mul (a b : E) : sq (mul a b) = mul (sq a) (sq b) := by
  unfold sq
  rw [mul_assoc, mul_assoc, ← mul_assoc b a b, mul_comm b a, mul_assoc a b b]

def sqs : Nat → E → E
  | 0, a => a
  | n + 1, a => sq (sqs n a)

theorem sqs_xor (n : Nat) (a b : E) : sqs n (a ^^^ b) = sqs n a ^^^ sqs n b := by
  induction n with
  | zero => rfl
  | succ n ih => simp only [sqs]; rw [ih, sq_xor]

theorem sqs_mul (n : Nat) (a b : E) : sqs n (mul a b) = mul (sqs n a) (sqs n b) := by
  induction n with
  | zero => rfl
  | succ n ih => simp only [sqs]; rw [ih, sq_mul]

theorem sqs_one (n : Nat) : sqs n 1#128 = 1#128 := by
  induction n with
  | zero => rfl
  | succ n ih => simp only [sqs]; rw [ih]; exact one_mul _

/-! the same in numbers, for the kernel -/

def ndbl (a : Nat) : Nat := if a < 170141183460469231731687303715884105728 then 2 * a else (2 * a - 340282366920938463463374607431768211456) ^^^ 135

def nmulTo (a b : Nat) : Nat → Nat
  | 0 => 0
  | i + 1 => if b.testBit (127 - i) then Nat.xor (ndbl (nmulTo a b i)) a else ndbl (nmulTo a b i)

theorem toNat_dbl (a : E) : (dbl a).toNat = ndbl a.toNat := by
  have h := a.isLt
  unfold dbl ndbl
  have hb : a.getLsbD 127 = decide (170141183460469231731687303715884105728 ≤ a.toNat) := by
    have : a.getLsbD 127 = a.msb := by rw [BitVec.msb_eq_getLsbD_last]
    rw [this, BitVec.msb_eq_decide]
  by_cases c : a.toNat < 170141183460469231731687303715884105728
  · have : decide (170141183460469231731687303715884105728 ≤ a.toNat) = false := by simp; omega
    rw [if_pos c, hb, this]
    simp only [Bool.false_eq_true, if_false, BitVec.xor_zero, BitVec.toNat_shiftLeft, Nat.shiftLeft_eq]
    omega
  · have : decide (170141183460469231731687303715884105728 ≤ a.toNat) = true := by simp; omega
    rw [if_neg c, hb, this]
    simp only [if_true, BitVec.toNat_xor, BitVec.toNat_shiftLeft, Nat.shiftLeft_eq]
    have e : a.toNat * 2 ^ 1 % 2 ^ 128 = 2 * a.toNat - 340282366920938463463374607431768211456 := by omega
    rw [e]; rfl

theorem toNat_mulTo (a b : E) (i : Nat) : (mulTo a b i).toNat = nmulTo a.toNat b.toNat i := by
  induction i with
  | zero => rfl
  | succ i ih =>
    simp only [mulTo, nmulTo]
    rw [BitVec.toNat_xor, toNat_dbl, ih]
    have : b.getLsbD (127 - i) = b.toNat.testBit (127 - i) := rfl
    rw [this]
    by_cases c : b.toNat.testBit (127 - i) = true
    · rw [if_pos c, if_pos c]; rfl
    · rw [if_neg c, if_neg c]; simp

def nsqs (a : Nat) : Nat → Nat
  | 0 => a
  | n + 1 => nmulTo (nsqs a n) (nsqs a n) 128

theorem toNat_sqs (a : E) (n : Nat) : (sqs n a).toNat = nsqs a.toNat n := by
  induction n with
  | zero => rfl
  | succ n ih => simp only [sqs, nsqs, sq, mul]; rw [toNat_mulTo, ih]

/-- squares of squares, in numbers, one behind the other -/
def nrun : Nat → Nat → Nat
  | 0, a => a
  | n + 1, a => nrun n (nmulTo a a 128)

theorem nsqs_succ (a n : Nat) : nsqs a (n + 1) = nsqs (nmulTo a a 128) n := by
  induction n with
  | zero => rfl
  | succ n ih => show nmulTo (nsqs a (n + 1)) (nsqs a (n + 1)) 128 = _; rw [ih]; rfl

theorem nrun_eq (n : Nat) : ∀ a, nrun n a = nsqs a n := by
  induction n with
  | zero => intro a; rfl
  | succ n ih => intro a; rw [nsqs_succ, ← ih]; rfl

theorem nrun_two : nrun 128 2 = 2 := by decide +kernel

theorem sqs_two : sqs 128 2#128 = 2#128 := by
  apply BitVec.eq_of_toNat_eq
  rw [toNat_sqs, ← nrun_eq]
  exact nrun_two

theorem dbl_eq (a : E) : dbl a = mul a 2#128 := by
  have : (2#128 : E) = pw2 1 := by decide
  rw [this, mul_pw2 _ _ (by omega)]; rfl

theorem sqs_all (a : E) : sqs 128 a = a := by
  refine ext_pw2 (f := fun a => sqs 128 a) (g := fun a => a) (fun x y => sqs_xor 128 x y) (fun _ _ => rfl) ?_ a
  intro k hk
  show sqs 128 (pw2 k) = pw2 k
  rw [← up_one k hk]
  clear hk
  induction k with
  | zero => exact sqs_one 128
  | succ k ih => simp only [up]; rw [dbl_eq, sqs_mul, ih, sqs_two]

def pow (a : E) : Nat → E
  | 0 => 1#128
  | n + 1 => mul a (pow a n)

theorem pow_add (a : E) (m n : Nat) : pow a (m + n) = mul (pow a m) (pow a n) := by
  induction m with
  | zero => rw [Nat.zero_add]; exact (one_mul _).symm
  | succ m ih => rw [Nat.add_right_comm]; simp only [pow]; rw [ih, mul_assoc]

theorem pow_two_pow (a : E) (n : Nat) : pow a (2 ^ n) = sqs n a := by
  induction n with
  | zero => show mul a 1#128 = a; exact mul_one a
  | succ n ih => rw [Nat.pow_succ, Nat.mul_two, pow_add, ih]; rfl

theorem pow_all (a : E) : pow a (2 ^ 128) = a := by rw [pow_two_pow, sqs_all]

/-- a table of 128 numbers: what undoes 'square and add', but for the lowest digit -/
def tab : List Nat := [0x295ac0b1f4731af9676aac9fa4b20b08, 0xe5da5595ee970b89929959af766af404, 0xe5da5595ee970b89929959af766af406, 0x4e9826c74350bfe67783f7333404a20c, 0xe5da5595ee970b89929959af766af402, 0x2aaea79ad7da34b07dc714cb83074e6a, 0x4e9826c74350bfe67783f7333404a204, 0xcc8095241ae41171f5f3f531d2d9fe18, 0xe5da5595ee970b89929959af766af412, 0x4e983687d159ce9677cb862e8ac85b44, 0x2aaea79ad7da34b07dc714cb83074e4a, 0xaae2ab6aaf144aaff73fcb3c06aaff56, 0x4e9826c74350bfe67783f7333404a244, 0xe62f327ccd5792dd893fe9ca40603f62, 0xcc8095241ae41171f5f3f531d2d9fe98, 0xab52f0323f47c90be1336bc7d453b626, 0xe5da5595ee970b89929959af766af512, 0x2abe34bad75338b479a6a089abf4573a, 0x4e983687d159ce9677cb862e8ac85944, 0x1e8ccb9dcc72f2e1a9cbef8232562fc, 0x2aaea79ad7da34b07dc714cb83074a4a, 0x2442c3221f3dc1a0ce869b24a80e48c, 0xaae2ab6aaf144aaff73fcb3c06aaf756, 0xcf64612f39c4323deb3ff936dd9aa228, 0x4e9826c74350bfe67783f7333404b244, 0xcc911696880d4909f0d5382a57572458, 0xe62f327ccd5792dd893fe9ca40601f62, 0x4d7cd7cc29d28cf2697f6478e5db2834, 0xcc8095241ae41171f5f3f531d2d9be98, 0xccc99127569146a7fc0956ca1a5b86a4, 0xab52f0323f47c90be1336bc7d4533626, 0x65cece94dacd5b1c14f5986b001eeb82, 0xe5da5595ee970b89929959af766bf512, 0x2b0e7fa2d509ca746fe27169c7c3e73a, 0x2abe34bad75338b479a6a089abf6573a, 0x65df4d264824132411d3553885980142, 0x4e983687d159ce9677cb862e8acc5944, 0xcf74f70e70ef2af7ef6fd21d2af671a4, 0x1e8ccb9dcc72f2e1a9cbef8232d62fc, 0xcec4b9173b16cdf9f91a9d8499490f58, 0x2aaea79ad7da34b07dc714cb83174a4a, 0x83f16f99175f624799a6cf206b513bdc, 0x2442c3221f3dc1a0ce869b24aa0e48c, 0x3f562a96a2aa9081b9e27ebe84671c0, 0xaae2ab6aaf144aaff73fcb3c06eaf756, 0xccc9c07ae11bcce3fcd6d526cddeebd4, 0xcf64612f39c4323deb3ff936dd1aa228, 0xa95fc803c09556f7e461dfebe8467196, 0x4e9826c74350bfe67783f7333504b244, 0x4cdc1ab0f0ab5b2e7b20ee03c15c7384, 0xcc911696880d4909f0d5382a55572458, 0xaaba68961da11d79fb48c8c7fe68cf6a, 0xe62f327ccd5792dd893fe9ca44601f62, 0xe5db5416ee209847938b5c70638d3bee, 0x4d7cd7cc29d28cf2697f6478eddb2834, 0x6437818b95e2e76e0b49fa26a7e512ce, 0xcc8095241ae41171f5f3f531c2d9be98, 0x4cd9020746184ba27868a299022ddf34, 0xccc99127569146a7fc0956ca3a5b86a4, 0x824171dcefbe4a8b8f1d24e407e8e76c, 0xab52f0323f47c90be1336bc794533626, 0xe62e22af1f6bf32b88711e202cdc3b5e, 0x65cece94dacd5b1c14f5986b801eeb82, 0x83f4672b23a92e499aadb85427b54520, 0xe5da5595ee970b89929959ae766bf512, 0x1040920971720048711dbeccf94c, 0x2b0e7fa2d509ca746fe2716bc7c3e73a, 0x81edd40a7a7437cb99d6b267d0d7976c, 0x2abe34bad75338b479a6a08dabf6573a, 0xe46a1e8deccdf96d84dd884d1a5d4462, 0x65df4d264824132411d3553085980142, 0x804c1cb1eac70f698ab1aeeb3a605920, 0x4e983687d159ce9677cb863e8acc5944, 0xa94f4b3252499e01e04514377dbd55aa, 0xcf74f70e70ef2af7ef6fd23d2af671a4, 0xe7d77da5831189d3978a93f3f56f619e, 0x1e8ccb9dcc72f2e1a9cbeb8232d62fc, 0x4cdd0f362b68e52a7a5109eab0a16ef4, 0xcec4b9173b16cdf9f91a9d0499490f58, 0xe4329c3d7bf233698830781e88d05912, 0x2aaea79ad7da34b07dc715cb83174a4a, 0x82082082597387418618bcbfcff334e0, 0x83f16f99175f624799a6cd206b513bdc, 0x294b124ed1181a846297e291f4adcc3a, 0x2442c3221f3dc1a0ce86db24aa0e48c, 0xe78fff41144664939b696b666550119e, 0x3f562a96a2aa9081b9e2febe84671c0, 0xcd78dbfd54a1436beb568d9e63d55a14, 0xaae2ab6aaf144aaff73fdb3c06eaf756, 0xccdd4e7b1ce38d0ffacabbbeed722b64, 0xccc9c07ae11bcce3fcd6f526cddeebd4, 0x3e5e1ccb1bf89c61fb4754fa43bbf3c, 0xcf64612f39c4323deb3fb936dd1aa228, 0xe5da00893461b455926f68f4172caea2, 0xa95fc803c09556f7e4615febe8467196, 0xe78ae2a77b3e87b1981cf1dccb9d1fd2, 0x4e9826c74350bfe67782f7333504b244, 0x2912d4222a675b0a6fd777b6c15f72c6, 0x4cdc1ab0f0ab5b2e7b22ee03c15c7384, 0xe7d6682e58d237f196f8740f85956fd2, 0xcc911696880d4909f0d1382a55572458, 0xab4366b0764a0b4be46143c933474626, 0xaaba68961da11d79fb40c8c7fe68cf6a, 0xe7d77d718378aeb397849bb7f7de0d9e, 0xe62f327ccd5792dd892fe9ca44601f62, 0x64231d9efb5729d60d13f9bd382e380e, 0xe5db5416ee20984793ab5c70638d3bee, 0x81b51ab7a5fe1499959811bd9a557220, 0x4d7cd7cc29d28cf2693f6478eddb2834, 0x295ab4bb43072c12678a4ee975a08406, 0x6437818b95e2e76e0bc9fa26a7e512ce, 0xab0eead38eb165ebef9e1acd25989a26, 0xcc8095241ae41171f4f3f531c2d9be98, 0x3ba7996db230c0010185b9b29b00000, 0x4cd9020746184ba27a68a299022ddf34, 0x8210932010890d058261f45338765990, 0xccc99127569146a7f80956ca3a5b86a4, 0x2a88e0fbb92f0c2c7f14722e3db361fa, 0x824171dcefbe4a8b871d24e407e8e76c, 0x29b11e87b8989fd86fb067f47d17578a, 0xab52f0323f47c90bf1336bc794533626, 0x0, 0xe62e22af1f6bf32ba8711e202cdc3b5e, 0x862e22af1f6bf32ba8711e202cdc3b6c, 0x65cece94dacd5b1c54f5986b801eeb82, 0x8e8cbdc6770aef73b1ef36f7c270bdac, 0x83f4672b23a92e491aadb85427b54520, 0x38b21c09fae1613c0db7ed8c3891e6fa]

def undo (l : List Nat) (a : Nat) : Nat → Nat
  | 0 => 0
  | k + 1 => if a.testBit k then Nat.xor (undo l a k) (l.getD k 0) else undo l a k

def undoE (a : E) : Nat → E
  | 0 => 0#128
  | k + 1 => undoE a k ^^^ (if a.getLsbD k then BitVec.ofNat 128 (tab.getD k 0) else 0#128)

theorem undoE_xor (a b : E) (k : Nat) : undoE (a ^^^ b) k = undoE a k ^^^ undoE b k := by
  induction k with
  | zero => simp [undoE]
  | succ k ih => simp only [undoE]; rw [ih, BitVec.getLsbD_xor, ite_xor]; ac_rfl

theorem tab_lt : (List.range 128).all (fun k => decide (tab.getD k 0 < 2 ^ 128)) = true := by decide +kernel

theorem toNat_undoE (a : E) (k : Nat) (hk : k ≤ 128) : (undoE a k).toNat = undo tab a.toNat k := by
  induction k with
  | zero => rfl
  | succ k ih =>
    simp only [undoE, undo]
    rw [BitVec.toNat_xor, ih (by omega)]
    have : a.getLsbD k = a.toNat.testBit k := rfl
    rw [this]
    have ht : tab.getD k 0 < 2 ^ 128 := by
      have := List.all_eq_true.1 tab_lt k (by simp; omega)
      simpa using this
    by_cases c : a.toNat.testBit k = true
    · rw [if_pos c, if_pos c, BitVec.toNat_ofNat, Nat.mod_eq_of_lt ht]; rfl
    · rw [if_neg c, if_neg c]; simp

def low (a : E) : E := if a.getLsbD 0 then 1#128 else 0#128

theorem low_xor (a b : E) : low (a ^^^ b) = low a ^^^ low b := by
  unfold low; rw [BitVec.getLsbD_xor, ite_xor]

theorem undo_all : (List.range 128).all (fun k => undo tab (Nat.xor (nmulTo (2 ^ k) (2 ^ k) 128) (2 ^ k)) 128 == Nat.xor (2 ^ k) (if k = 0 then 1 else 0)) = true := by
  decide +kernel

theorem toNat_pw2 (k : Nat) (hk : k < 128) : (pw2 k).toNat = 2 ^ k := by
  unfold pw2; rw [BitVec.toNat_twoPow, Nat.mod_eq_of_lt (Nat.pow_lt_pow_right (by omega) hk)]

theorem undo_pw2 (k : Nat) (hk : k < 128) : undoE (sq (pw2 k) ^^^ pw2 k) 128 = pw2 k ^^^ low (pw2 k) := by
  have h := List.all_eq_true.1 undo_all k (by simp; omega)
  simp only [beq_iff_eq] at h
  apply BitVec.eq_of_toNat_eq
  rw [toNat_undoE _ _ (Nat.le_refl _), BitVec.toNat_xor, BitVec.toNat_xor, toNat_pw2 k hk]
  unfold sq mul
  rw [toNat_mulTo, toNat_pw2 k hk]
  refine h.trans ?_
  show 2 ^ k ^^^ (if k = 0 then 1 else 0) = 2 ^ k ^^^ (low (pw2 k)).toNat
  congr 1
  unfold low pw2
  rw [BitVec.getLsbD_twoPow]
  by_cases h0 : k = 0 <;> simp [h0]

theorem undo_sq (a : E) : undoE (sq a ^^^ a) 128 = a ^^^ low a := by
  refine ext_pw2 (f := fun a => undoE (sq a ^^^ a) 128) (g := fun a => a ^^^ low a) (fun x y => ?_) (fun x y => ?_) undo_pw2 a
  · show undoE (sq (x ^^^ y) ^^^ (x ^^^ y)) 128 = _
    rw [sq_xor, ← undoE_xor]; congr 1; ac_rfl
  · show (x ^^^ y) ^^^ low (x ^^^ y) = (x ^^^ low x) ^^^ (y ^^^ low y)
    rw [low_xor]; ac_rfl

theorem undoE_zero : undoE 0#128 128 = 0#128 := by
  have := undoE_xor 0#128 0#128 128; simpa using this

/-- what is its own square is none or one -/
theorem own_square (e : E) (h : sq e = e) : e = 0#128 ∨ e = 1#128 := by
  have := undo_sq e
  rw [h, BitVec.xor_self, undoE_zero] at this
  have h2 : e = low e := by
    have h3 : e ^^^ low e ^^^ low e = 0#128 ^^^ low e := by rw [← this]
    rw [BitVec.xor_assoc, BitVec.xor_self, BitVec.xor_zero, BitVec.zero_xor] at h3
    exact h3
  unfold low at h2
  by_cases c : e.getLsbD 0 = true
  · rw [if_pos c] at h2; exact .inr h2
  · rw [if_neg c] at h2; exact .inl h2

theorem inverse (a : E) (ha : a ≠ 0#128) : ∃ b, mul b a = 1#128 := by
  generalize hN : (2 ^ 128 : Nat) = N at *
  have hp : pow a N = a := by rw [← hN]; exact pow_all a
  have hN2 : 2 ≤ N := by rw [← hN]; decide
  obtain ⟨m, rfl⟩ : ∃ m, N = m + 2 := ⟨N - 2, by omega⟩
  have h1 : mul a (pow a (m + 1)) = a := hp
  have hs : sq (pow a (m + 1)) = pow a (m + 1) := by
    unfold sq
    rw [← pow_add, show m + 1 + (m + 1) = (m + 2) + m by omega, pow_add, hp]; rfl
  rcases own_square _ hs with h0 | h0
  · rw [h0, mul_zero] at h1; exact absurd h1.symm ha
  · refine ⟨pow a m, ?_⟩
    rw [mul_comm]; exact h0

theorem mul_eq_zero (a b : E) (h : mul a b = 0#128) : a = 0#128 ∨ b = 0#128 := by
  by_cases ha : a = 0#128
  · exact .inl ha
  · obtain ⟨c, hc⟩ := inverse a ha
    right
    rw [← one_mul b, ← hc, mul_assoc, h, mul_zero]

end Go.Proofs.Ytlbogmpfjkendaa.GF
