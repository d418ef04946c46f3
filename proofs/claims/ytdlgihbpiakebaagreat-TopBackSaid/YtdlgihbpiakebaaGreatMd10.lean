import Derived.Test.YtdlgihbpiakebaaGreatMd01
import GoSem.Op.String
set_option maxRecDepth 100000
set_option maxHeartbeats 4000000
namespace Go.Proofs.YtdlgihbpiakebaaGreat
open Go
def qIT : List UInt8 → Nat
 | []=>0
 | c :: bs=>c.toNat * 256 ^ bs.length + qIT bs
theorem qJ9 (bs : List UInt8) : qIT bs < 256 ^ bs.length:=by
 induction bs with
 | nil=>simp [qIT]
 | cons c bs ih =>
  have h:=c.toNat_lt
  simp only [qIT,List.length_cons,Nat.pow_succ]
  have h2 : c.toNat ≤ 255:=by omega
  have h3 : c.toNat * 256 ^ bs.length ≤ 255 * 256 ^ bs.length:=Nat.mul_le_mul_right _ h2
  omega
theorem qM4 (bs : List UInt8) (c : UInt8) : qIT (bs ++ [c]) = qIT bs * 256 + c.toNat:=by
 induction bs with
 | nil=>simp [qIT]
 | cons d bs ih =>
  simp only [List.cons_append,qIT,ih,List.length_append,List.length_cons,List.length_nil,Nat.pow_succ]
  rw [Nat.add_mul,Nat.mul_assoc];omega
theorem qER (bs : List UInt8) (h : bs.length ≤ 8) : (qAn bs).toNat = qIT bs:=by
 have main : ∀ n,n ≤ 8 → ∀ bs : List UInt8,bs.length = n → (qAn bs).toNat = qIT bs:=by
  intro n
  induction n with
  | zero=>intro _ bs hb;have : bs = []:=List.eq_nil_of_length_eq_zero hb;subst this;rfl
  | succ n ih =>
   intro hn bs hb
   obtain ⟨bs',c,rfl⟩ : ∃ bs' c,bs = bs' ++ [c]:=by
    have hne : bs ≠ []:=by intro e;rw [e] at hb;simp at hb
    exact ⟨bs.dropLast,bs.getLast hne,(List.dropLast_concat_getLast hne).symm⟩
   have hl : bs'.length = n:=by simp at hb;exact hb
   have e:=ih (by omega) bs' hl
   have hlt:=qJ9 bs'
   rw [hl] at hlt
   have h7 : 256 ^ n ≤ 256 ^ 7:=Nat.pow_le_pow_right (by decide) (by omega)
   have hc:=c.toNat_lt
   rw [qHW,qM4]
   have hs : (qAn bs' <<< 8).toNat = qIT bs' * 256:=by
    rw [BitVec.toNat_shiftLeft,Nat.shiftLeft_eq,e]
    have : qIT bs' * 2 ^ 8 < 2 ^ 64:=by omega
    rw [Nat.mod_eq_of_lt this]
   rw [BitVec.toNat_or,hs,BitVec.toNat_ofNat,Nat.mod_eq_of_lt (by omega)]
   rw [show qIT bs' * 256 = 2 ^ 8 * qIT bs' by omega]
   exact (Nat.two_pow_add_eq_or_of_lt (by omega) _).symm
 exact main bs.length h bs rfl
theorem qI6 (v : BitVec 64) (n i : Nat) : (qDU v n i).toNat = v.toNat / 256 ^ (n - 1 - i) % 256:=by
 unfold qDU
 rw [UInt8.toNat_ofNat',Nat.shiftRight_eq_div_pow]
 have : (2 : Nat) ^ (8 * (n - 1 - i)) = 256 ^ (n - 1 - i):=by rw [Nat.pow_mul]
 rw [this]
theorem qM5 (v : BitVec 64) (n : Nat) : qB2 v (n + 1) = qDU v (n + 1) 0 :: qB2 v n:=by
 unfold qB2
 rw [List.range_succ_eq_map,List.map_cons,List.map_map]
 congr 1
 apply List.map_congr_left
 intro i _
 show qDU v (n + 1) (i + 1) = qDU v n i
 unfold qDU
 rw [show n + 1 - 1 - (i + 1) = n - 1 - i by omega]
theorem qM6 (v : BitVec 64) (n : Nat) : qIT (qB2 v n) = v.toNat % 256 ^ n:=by
 induction n with
 | zero=>show 0 = v.toNat % 1;omega
 | succ n ih =>
  rw [qM5]
  simp only [qIT]
  rw [qAb,ih,qI6,show n + 1 - 1 - 0 = n by omega,Nat.pow_succ,Nat.mod_mul,Nat.mul_comm]
  omega
theorem qI7 (v : BitVec 64) (n : Nat) (hn : n ≤ 8) : (qAn (qB2 v n)).toNat = v.toNat % 256 ^ n:=by
 rw [qER _ (by rw [qAb];exact hn),qM6]
theorem qES (v : BitVec 64) : qAn (qB2 v 8) = v:=by
 apply BitVec.eq_of_toNat_eq
 rw [qI7 v 8 qle]
 exact Nat.mod_eq_of_lt v.isLt
end Go.Proofs.YtdlgihbpiakebaaGreat
