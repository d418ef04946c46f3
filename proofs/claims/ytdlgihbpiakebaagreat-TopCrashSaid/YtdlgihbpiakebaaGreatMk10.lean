import Derived.Test.YtdlgihbpiakebaaGreatMk01
import GoSem.Op.String
set_option maxRecDepth 100000
set_option maxHeartbeats 4000000
namespace Go.Proofs.YtdlgihbpiakebaaGreat
open Go
def qJG:List UInt8→Nat
 | []=>0
 | c::bs=>c.toNat*256^bs.length+qJG bs
theorem qJV (bs:List UInt8):qJG bs<256^bs.length:=by
 induction bs with
 | nil=>simp[qJG]
 | cons c bs ih =>
  have h:=c.toNat_lt
  simp only[qJG,List.length_cons,Nat.pow_succ]
  have f:c.toNat≤255:=by omega
  have j:c.toNat*256^bs.length≤255*256^bs.length:=Nat.mul_le_mul_right _ f
  omega
theorem qMY (bs:List UInt8)(c:UInt8):qJG (bs++ [c])=qJG bs*256+c.toNat:=by
 induction bs with
 | nil=>simp[qJG]
 | cons d bs ih =>
  simp only[List.cons_append,qJG,ih,List.length_append,List.length_cons,List.length_nil,Nat.pow_succ]
  rw[Nat.add_mul,Nat.mul_assoc];omega
theorem qFa (bs:List UInt8)(h:bs.length≤8):(qAn bs).toNat=qJG bs:=by
 have l:∀n,n≤8→∀bs:List UInt8,bs.length=n→(qAn bs).toNat=qJG bs:=by
  intro n
  induction n with
  | zero=>intro _ bs j;have:bs= []:=List.eq_nil_of_length_eq_zero j;subst this;rfl
  | succ n ih =>
   intro hn bs j
   obtain⟨f,c,rfl⟩:∃f c,bs=f++ [c]:=by
    have q:bs≠ []:=by intro e;rw[e]at j;simp at j
    exact⟨bs.dropLast,bs.getLast q,(List.dropLast_concat_getLast q).symm⟩
   have hl:f.length=n:=by simp at j;exact j
   have e:=ih (by omega) f hl
   have F:=qJV f
   rw[hl]at F
   have I:256^n≤256^7:=Nat.pow_le_pow_right (by decide) (by omega)
   have J:=c.toNat_lt
   rw[qIv,qMY]
   have G:(qAn f<<<8).toNat=qJG f*256:=by
    rw[BitVec.toNat_shiftLeft,Nat.shiftLeft_eq,e]
    have:qJG f*2^8<2^64:=by omega
    rw[Nat.mod_eq_of_lt this]
   rw[BitVec.toNat_or,G,BitVec.toNat_ofNat,Nat.mod_eq_of_lt (by omega)]
   rw[show qJG f*256=2^8*qJG f by omega]
   exact(Nat.two_pow_add_eq_or_of_lt (by omega) _).symm
 exact l bs.length h bs rfl
theorem qIG (v:BitVec 64)(n i:Nat):(qE3 v n i).toNat=v.toNat / 256^(n - 1 - i) % 256:=by
 unfold qE3
 rw[UInt8.toNat_ofNat',Nat.shiftRight_eq_div_pow]
 have:(2:Nat)^(8*(n - 1 - i))=256^(n - 1 - i):=by rw[Nat.pow_mul]
 rw[this]
theorem qMZ (v:BitVec 64)(n:Nat):qAI v (n+1)=qE3 v (n+1) 0::qAI v n:=by
 unfold qAI
 rw[List.range_succ_eq_map,List.map_cons,List.map_map]
 congr 1
 apply List.map_congr_left
 intro i _
 show qE3 v (n+1) (i+1)=qE3 v n i
 unfold qE3
 rw[show n+1 - 1 - (i+1)=n - 1 - i by omega]
theorem qN0 (v:BitVec 64)(n:Nat):qJG (qAI v n)=v.toNat % 256^n:=by
 induction n with
 | zero=>show 0=v.toNat % 1;omega
 | succ n ih =>
  rw[qMZ]
  simp only[qJG]
  rw[qA9,ih,qIG,show n+1 - 1 - 0=n by omega,Nat.pow_succ,Nat.mod_mul,Nat.mul_comm]
  omega
theorem qEv (v:BitVec 64)(n:Nat)(hn:n≤8):(qAn (qAI v n)).toNat=v.toNat % 256^n:=by
 rw[qFa _ (by rw[qA9];exact hn),qN0]
theorem qCR (v:BitVec 64):qAn (qAI v 8)=v:=by
 apply BitVec.eq_of_toNat_eq
 rw[qEv v 8 qle]
 exact Nat.mod_eq_of_lt v.isLt
end Go.Proofs.YtdlgihbpiakebaaGreat
