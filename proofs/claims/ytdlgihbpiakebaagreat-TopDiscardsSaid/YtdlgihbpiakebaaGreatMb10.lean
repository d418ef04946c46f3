import Derived.Test.YtdlgihbpiakebaaGreatMb01
import GoSem.Op.String
set_option maxRecDepth 100000
set_option maxHeartbeats 4000000
namespace Go.Proofs.YtdlgihbpiakebaaGreat
open Go
def qIZ : List UInt8 → Nat
 | []=>0
 | c :: bs=>c.toNat * 256 ^ bs.length + qIZ bs
theorem qJf (bs : List UInt8) : qIZ bs < 256 ^ bs.length:=by
 induction bs with
 | nil=>simp [qIZ]
 | cons c bs ih =>
  have h:=c.toNat_lt
  simp only [qIZ,List.length_cons,Nat.pow_succ]
  have h2 : c.toNat ≤ 255:=by omega
  have h3 : c.toNat * 256 ^ bs.length ≤ 255 * 256 ^ bs.length:=Nat.mul_le_mul_right _ h2
  omega
theorem qM8 (bs : List UInt8) (c : UInt8) : qIZ (bs ++ [c]) = qIZ bs * 256 + c.toNat:=by
 induction bs with
 | nil=>simp [qIZ]
 | cons d bs ih =>
  simp only [List.cons_append,qIZ,ih,List.length_append,List.length_cons,List.length_nil,Nat.pow_succ,Nat.pow_zero]
  rw [Nat.add_mul,Nat.mul_assoc];omega
theorem qER (bs : List UInt8) (h : bs.length ≤ 8) : (qAm bs).toNat = qIZ bs:=by
 have main : ∀ n,n ≤ 8 → ∀ bs : List UInt8,bs.length = n → (qAm bs).toNat = qIZ bs:=by
  intro n
  induction n with
  | zero=>intro _ bs hb;have : bs = []:=List.eq_nil_of_length_eq_zero hb;subst this;rfl
  | succ n ih =>
   intro hn bs hb
   obtain ⟨bs',c,rfl⟩ : ∃ bs' c,bs = bs' ++ [c]:=by
    have hne : bs ≠ []:=by intro e;rw [e] at hb;simp at hb
    exact ⟨bs.dropLast,bs.getLast hne,(List.dropLast_concat_getLast hne).symm⟩
   have hl : bs'.length = n:=by simp at hb;exact hb
   have e:=ih (by omega) bs' hl
   have hlt:=qJf bs'
   rw [hl] at hlt
   have h7 : 256 ^ n ≤ 256 ^ 7:=Nat.pow_le_pow_right (by decide) (by omega)
   have hc:=c.toNat_lt
   rw [qHV,qM8]
   have hs : (qAm bs' <<< 8).toNat = qIZ bs' * 256:=by
    rw [BitVec.toNat_shiftLeft,Nat.shiftLeft_eq,e]
    have : qIZ bs' * 2 ^ 8 < 2 ^ 64:=by omega
    rw [Nat.mod_eq_of_lt this]
   rw [BitVec.toNat_or,hs,BitVec.toNat_ofNat,Nat.mod_eq_of_lt (by omega)]
   rw [show qIZ bs' * 256 = 2 ^ 8 * qIZ bs' by omega]
   exact (Nat.two_pow_add_eq_or_of_lt (by omega) _).symm
 exact main bs.length h bs rfl
theorem qI5 (v : BitVec 64) (n i : Nat) : (qDK v n i).toNat = v.toNat / 256 ^ (n - 1 - i) % 256:=by
 unfold qDK
 rw [UInt8.toNat_ofNat',Nat.shiftRight_eq_div_pow]
 have : (2 : Nat) ^ (8 * (n - 1 - i)) = 256 ^ (n - 1 - i):=by rw [Nat.pow_mul]
 rw [this]
theorem qM9 (v : BitVec 64) (n : Nat) : qAF v (n + 1) = qDK v (n + 1) 0 :: qAF v n:=by
 unfold qAF
 rw [List.range_succ_eq_map,List.map_cons,List.map_map]
 congr 1
 apply List.map_congr_left
 intro i _
 show qDK v (n + 1) (i + 1) = qDK v n i
 unfold qDK
 rw [show n + 1 - 1 - (i + 1) = n - 1 - i by omega]
theorem qMa (v : BitVec 64) (n : Nat) : qIZ (qAF v n) = v.toNat % 256 ^ n:=by
 induction n with
 | zero=>show 0 = v.toNat % 1;omega
 | succ n ih =>
  rw [qM9]
  simp only [qIZ]
  rw [qA9,ih,qI5,show n + 1 - 1 - 0 = n by omega,Nat.pow_succ,Nat.mod_mul,Nat.mul_comm]
  omega
theorem qEd (v : BitVec 64) (n : Nat) (hn : n ≤ 8) : (qAm (qAF v n)).toNat = v.toNat % 256 ^ n:=by
 rw [qER _ (by rw [qA9];exact hn),qMa]
theorem qCK (v : BitVec 64) : qAm (qAF v 8) = v:=by
 apply BitVec.eq_of_toNat_eq
 rw [qEd v 8 qle]
 exact Nat.mod_eq_of_lt v.isLt
end Go.Proofs.YtdlgihbpiakebaaGreat
