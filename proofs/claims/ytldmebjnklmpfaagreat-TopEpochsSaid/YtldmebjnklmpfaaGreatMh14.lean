import Derived.Test.YtldmebjnklmpfaaGreatMh11
import Derived.Test.YtldmebjnklmpfaaGreatMh13
set_option maxRecDepth 100000
set_option maxHeartbeats 4000000
namespace Go.Proofs.YtldmebjnklmpfaaGreat
open Go
def padR (l : List UInt8) : List UInt8:=l ++ List.replicate (16 - l.length) 0
def nP (n : Nat) : Nat:=(n + 15) / 16
def rowP (bs : List UInt8) (k : Nat) : List UInt8:=padR ((bs.drop (16 * k)).take 16)
def pairsL (bs : List UInt8) : List Pair:=(List.range (nP bs.length)).map fun k=>pairG (rowP bs k)
theorem padR_length (l : List UInt8) (h : l.length ≤ 16) : (padR l).length = 16:=by simp [padR];omega
theorem rowP_length (bs : List UInt8) (k : Nat) : (rowP bs k).length = 16:=padR_length _ (by simp;omega)
theorem pairsL_length (bs : List UInt8) : (pairsL bs).length = nP bs.length:=by simp [pairsL]
theorem pairsL_take (bs : List UInt8) (k : Nat) (h : k < nP bs.length) : (pairsL bs).take (k + 1) = (pairsL bs).take k ++ [pairG (rowP bs k)]:=by
 rw [List.take_succ_eq_append_getElem (by rw [pairsL_length];exact h)]
 simp [pairsL]
theorem nP_lt (n k : Nat) (h : k < nP n) : 16 * k < n:=by unfold nP at h;omega
theorem nP_ge (n k : Nat) (h : nP n ≤ k) : n ≤ 16 * k:=by unfold nP at h;omega
def tagL (head bytes : List UInt8) : List Pair:=pairsL head ++ pairsL bytes ++ [(BitVec.ofNat 64 head.length,BitVec.ofNat 64 bytes.length)]
def tag2 (sub : Pair) (head bytes : List UInt8) : Pair:=add2 (eval2 (enc2 sub (0#64,1#64)) (tagL head bytes)) (enc2 sub (0#64,0#64))
def ciph (key : Pair) (n : Nn) (data : List UInt8) : List UInt8:=xorB data (flowB (sub2 key n) data.length)
def sealT (key : Pair) (n : Nn) (head data : List UInt8) : Pair:=tag2 (sub2 key n) head (ciph key n data)
theorem xorB_length (a b : List UInt8) : (xorB a b).length = min a.length b.length:=by simp [xorB]
theorem ciph_length (key : Pair) (n : Nn) (data : List UInt8) : (ciph key n data).length = data.length:=by
 rw [ciph,xorB_length,flowB_length,Nat.min_self]
theorem ciph_ciph (key : Pair) (n : Nn) (data : List UInt8) : ciph key n (ciph key n data) = data:=by
 have h:=ciph_length key n data
 unfold ciph at *
 rw [h,xorB_xorB,flowB_length,Nat.min_self,List.take_length]
end Go.Proofs.YtldmebjnklmpfaaGreat
