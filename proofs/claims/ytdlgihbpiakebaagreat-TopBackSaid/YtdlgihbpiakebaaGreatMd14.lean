import Derived.Test.YtdlgihbpiakebaaGreatMd11
import Derived.Test.YtdlgihbpiakebaaGreatMd13
set_option maxRecDepth 100000
set_option maxHeartbeats 4000000
namespace Go.Proofs.YtdlgihbpiakebaaGreat
open Go
def qRv (l : List UInt8) : List UInt8:=l ++ List.replicate (16 - l.length) 0
def nP (n : Nat) : Nat:=(n + 15) / 16
def qLS (bs : List UInt8) (k : Nat) : List UInt8:=qRv ((bs.drop (16 * k)).take 16)
def qCj (bs : List UInt8) : List qAB:=(List.range (nP bs.length)).map fun k=>qAq (qLS bs k)
theorem qJd (l : List UInt8) (h : l.length ≤ 16) : (qRv l).length = 16:=by simp [qRv];omega
theorem qJe (bs : List UInt8) (k : Nat) : (qLS bs k).length = 16:=qJd _ (by simp;omega)
theorem qBM (bs : List UInt8) : (qCj bs).length = nP bs.length:=by simp [qCj]
theorem qJf (bs : List UInt8) (k : Nat) (h : k < nP bs.length) : (qCj bs).take (k + 1) = (qCj bs).take k ++ [qAq (qLS bs k)]:=by
 rw [List.take_succ_eq_append_getElem (by rw [qBM];exact h)]
 simp [qCj]
theorem qPH (n k : Nat) (h : k < nP n) : 16 * k < n:=by unfold nP at h;omega
theorem qRL (n k : Nat) (h : nP n ≤ k) : n ≤ 16 * k:=by unfold nP at h;omega
def qOa (head bytes : List UInt8) : List qAB:=qCj head ++ qCj bytes ++ [(BitVec.ofNat 64 head.length,BitVec.ofNat 64 bytes.length)]
def qLT (sub : qAB) (head bytes : List UInt8) : qAB:=qIS (qCi (qKQ sub (0#64,1#64)) (qOa head bytes)) (qKQ sub (0#64,0#64))
def qGF (key : qAB) (n : Nn) (data : List UInt8) : List UInt8:=qFq data (qDQ (qNL key n) data.length)
def qE1 (key : qAB) (n : Nn) (head data : List UInt8) : qAB:=qLT (qNL key n) head (qGF key n data)
theorem qCX (a b : List UInt8) : (qFq a b).length = min a.length b.length:=by simp [qFq]
theorem qBy (key : qAB) (n : Nn) (data : List UInt8) : (qGF key n data).length = data.length:=by
 rw [qGF,qCX,qBD,Nat.min_self]
theorem qMa (key : qAB) (n : Nn) (data : List UInt8) : qGF key n (qGF key n data) = data:=by
 have h:=qBy key n data
 unfold qGF at *
 rw [h,qM7,qBD,Nat.min_self,List.take_length]
end Go.Proofs.YtdlgihbpiakebaaGreat
