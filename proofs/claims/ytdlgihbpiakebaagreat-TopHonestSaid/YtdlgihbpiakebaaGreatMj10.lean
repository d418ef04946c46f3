import Derived.Test.YtdlgihbpiakebaaGreatMj01
import GoSem.Op.String
set_option maxRecDepth 100000
set_option maxHeartbeats 4000000
namespace Go.Proofs.YtdlgihbpiakebaaGreat
open Go
def qJc : List UInt8 → Nat
 | []=>0
 | c :: bs=>c.toNat * 256 ^ bs.length + qJc bs
theorem qIj (bs : List UInt8) : qJc bs < 256 ^ bs.length:=by
 induction bs with
 | nil=>simp [qJc]
 | cons c bs ih =>
  have h:=c.toNat_lt
  simp only [qJc,List.length_cons,Nat.pow_succ]
  have h2 : c.toNat ≤ 255:=by omega
  have h3 : c.toNat * 256 ^ bs.length ≤ 255 * 256 ^ bs.length:=Nat.mul_le_mul_right _ h2
  omega
theorem qL3 (bs : List UInt8) (c : UInt8) : qJc (bs ++ [c]) = qJc bs * 256 + c.toNat:=by
 induction bs with
 | nil=>simp [qJc]
 | cons d bs ih =>
  simp only [List.cons_append,qJc,ih,List.length_append,List.length_cons,List.length_nil,Nat.pow_succ,Nat.pow_zero]
  rw [Nat.add_mul,Nat.mul_assoc];omega
theorem qFU (bs : List UInt8) (h : bs.length ≤ 8) : (qAh bs).toNat = qJc bs:=by
 have main : ∀ n,n ≤ 8 → ∀ bs : List UInt8,bs.length = n → (qAh bs).toNat = qJc bs:=by
  intro n
  induction n with
  | zero=>intro _ bs hb;have : bs = []:=List.eq_nil_of_length_eq_zero hb;subst this;rfl
  | succ n ih =>
   intro hn bs hb
   obtain ⟨bs',c,rfl⟩ : ∃ bs' c,bs = bs' ++ [c]:=by
    have hne : bs ≠ []:=by intro e;rw [e] at hb;simp at hb
    exact ⟨bs.dropLast,bs.getLast hne,(List.dropLast_concat_getLast hne).symm⟩
   have hl : bs'.length = n:=by simp at hb;exact hb
   have e:=ih (by omega) bs' hl
   have hlt:=qIj bs'
   rw [hl] at hlt
   have h7 : 256 ^ n ≤ 256 ^ 7:=Nat.pow_le_pow_right (by decide) (by omega)
   have hc:=c.toNat_lt
   rw [qH6,qL3]
   have hs : (qAh bs' <<< 8).toNat = qJc bs' * 256:=by
    rw [BitVec.toNat_shiftLeft,Nat.shiftLeft_eq,e]
    have : qJc bs' * 2 ^ 8 < 2 ^ 64:=by omega
    rw [Nat.mod_eq_of_lt this]
   rw [BitVec.toNat_or,hs,BitVec.toNat_ofNat,Nat.mod_eq_of_lt (by omega)]
   rw [show qJc bs' * 256 = 2 ^ 8 * qJc bs' by omega]
   exact (Nat.two_pow_add_eq_or_of_lt (by omega) _).symm
 exact main bs.length h bs rfl
end Go.Proofs.YtdlgihbpiakebaaGreat
