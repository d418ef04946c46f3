import Derived.Test.YtdlgihbpiakebaaGreatMb11
import Derived.Test.YtdlgihbpiakebaaGreatMb13
set_option maxRecDepth 100000
set_option maxHeartbeats 4000000
namespace Go.Proofs.YtdlgihbpiakebaaGreat
open Go
def qRB (l : List UInt8) : List UInt8:=l ++ List.replicate (16 - l.length) 0
def nP (n : Nat) : Nat:=(n + 15) / 16
def qLW (bs : List UInt8) (k : Nat) : List UInt8:=qRB ((bs.drop (16 * k)).take 16)
def qCj (bs : List UInt8) : List qAB:=(List.range (nP bs.length)).map fun k=>qAq (qLW bs k)
theorem qJi (l : List UInt8) (h : l.length ≤ 16) : (qRB l).length = 16:=by simp [qRB];omega
theorem qJj (bs : List UInt8) (k : Nat) : (qLW bs k).length = 16:=qJi _ (by simp;omega)
theorem qBJ (bs : List UInt8) : (qCj bs).length = nP bs.length:=by simp [qCj]
theorem qJk (bs : List UInt8) (k : Nat) (h : k < nP bs.length) : (qCj bs).take (k + 1) = (qCj bs).take k ++ [qAq (qLW bs k)]:=by
 rw [List.take_succ_eq_append_getElem (by rw [qBJ];exact h)]
 simp [qCj]
theorem qPL (n k : Nat) (h : k < nP n) : 16 * k < n:=by unfold nP at h;omega
theorem qRR (n k : Nat) (h : nP n ≤ k) : n ≤ 16 * k:=by unfold nP at h;omega
def qOg (head bytes : List UInt8) : List qAB:=qCj head ++ qCj bytes ++ [(BitVec.ofNat 64 head.length,BitVec.ofNat 64 bytes.length)]
def qLX (sub : qAB) (head bytes : List UInt8) : qAB:=qIY (qCi (qKX sub (0#64,1#64)) (qOg head bytes)) (qKX sub (0#64,0#64))
def qGC (key : qAB) (n : Nn) (data : List UInt8) : List UInt8:=qFs data (qDI (qNQ key n) data.length)
def qDS (key : qAB) (n : Nn) (head data : List UInt8) : qAB:=qLX (qNQ key n) head (qGC key n data)
theorem qCY (a b : List UInt8) : (qFs a b).length = min a.length b.length:=by simp [qFs]
theorem qBx (key : qAB) (n : Nn) (data : List UInt8) : (qGC key n data).length = data.length:=by
 rw [qGC,qCY,qBC,Nat.min_self]
theorem qMe (key : qAB) (n : Nn) (data : List UInt8) : qGC key n (qGC key n data) = data:=by
 have h:=qBx key n data
 unfold qGC at *
 rw [h,qMb,qBC,Nat.min_self,List.take_length]
end Go.Proofs.YtdlgihbpiakebaaGreat
