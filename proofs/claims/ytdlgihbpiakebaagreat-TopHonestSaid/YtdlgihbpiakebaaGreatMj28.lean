import Derived.Test.YtdlgihbpiakebaaGreatMj01
import Derived.Test.YtdlgihbpiakebaaGreatMj11
import Derived.Test.YtdlgihbpiakebaaGreatMj16
set_option maxRecDepth 100000
set_option maxHeartbeats 4000000
namespace Go.Proofs.YtdlgihbpiakebaaGreat
open Go
theorem qGz (bs : List UInt8) (n : Nat) (h : bs.length = n) (hn : n ≤ 8) : (qAh bs).toNat < 256 ^ n:=by
 rw [qFU bs (by omega),← h]
 exact qIj bs
structure Lf where
 kind : Int
 dirty : Bool
 lba : Int
 ep : BitVec 32
 sl : BitVec 32
 ver : BitVec 64
 tag : qAw
deriving DecidableEq
def qQq (a b : Lf) : Bool:=decide (a = b)
def Lf.val (l : Lf) : Value:=.agg #[.int .i64 l.kind,.bool l.dirty,.int .i64 l.lba,W l.ep,W l.sl,U l.ver,U l.tag.1,U l.tag.2]
def Lf.zero : Lf:=⟨0,false,0,0#32,0#32,0#64,(0#64,0#64)⟩
def qBK (n : Int) : Bool:=decide (0 ≤ n) && decide (n < 32)
def qAJ (l : Lf) (s : Int) : Bool :=
 (decide (0 ≤ s) && decide (s < 16)) &&
 (if l.kind = 0 then decide (l = Lf.zero)
  else if l.kind = 2 then qBK l.lba && decide (l = ⟨2,true,l.lba,0#32,0#32,0#64,(0#64,0#64)⟩)
  else if l.kind = 1 then qBK l.lba && (l.sl == BitVec.ofInt 32 s) && decide (0#32 < l.ep)
  else false)
def qLr (b : Bool) : BitVec 64:=if b then 1#64 else 0#64
def qCI (l : Lf) : List UInt8:=qAY (BitVec.ofInt 64 l.kind) 1 ++ qAY (qLr l.dirty) 1 ++ qAY (BitVec.ofInt 64 l.lba) 2 ++ qAY (l.ep.setWidth 64) 4 ++ qAY l.ver 8 ++ qAK l.tag
theorem qBm (l : Lf) : (qCI l).length = 32:=by simp [qCI,qAe,qAo]
def qF2 (bs : List UInt8) (s : Int) : Lf :=
 ⟨((qAh (bs.take 1)).toNat : Int),qAh ((bs.drop 1).take 1) == 1#64,((qAh ((bs.drop 2).take 2)).toNat : Int),(qAh ((bs.drop 4).take 4)).setWidth 32,
  if ((qAh (bs.take 1)).toNat : Int) = 1 then BitVec.ofInt 32 s else 0#32,qAh ((bs.drop 8).take 8),qAn (bs.drop 16)⟩
def qBA (bs : List UInt8) (s : Int) : Option Lf:=if bs.length = 32 ∧ qAJ (qF2 bs s) s = true ∧ qCI (qF2 bs s) = bs then some (qF2 bs s) else none
theorem qDO (bs : List UInt8) : qEL bs [1,1,2,4,8,16] = if bs.length = 32 then some [bs.take 1,(bs.drop 1).take 1,(bs.drop 2).take 2,(bs.drop 4).take 4,(bs.drop 8).take 8,bs.drop 16] else none:=by
 simp only [qEL,Int.reduceLE,true_and,Int.reduceToNat,List.drop_drop,Nat.reduceAdd,List.length_drop]
 by_cases h : bs.length = 32
 · rw [if_pos h,if_pos (by omega),if_pos (by omega),if_pos (by omega),if_pos (by omega),if_pos (by omega),if_pos (by omega),if_pos (List.drop_of_length_le (by omega))]
   simp only [Option.map_some]
   rw [List.take_of_length_le (l:=bs.drop 16) (by rw [List.length_drop];omega)]
 · rw [if_neg h]
   by_cases h1 : (1 : Int) ≤ bs.length
   · rw [if_pos h1]
     by_cases h2 : (1 : Int) ≤ ((bs.length - 1 : Nat) : Int)
     · rw [if_pos h2]
       by_cases h3 : (2 : Int) ≤ ((bs.length - 2 : Nat) : Int)
       · rw [if_pos h3]
         by_cases h4 : (4 : Int) ≤ ((bs.length - 4 : Nat) : Int)
         · rw [if_pos h4]
           by_cases h5 : (8 : Int) ≤ ((bs.length - 8 : Nat) : Int)
           · rw [if_pos h5]
             by_cases h6 : (16 : Int) ≤ ((bs.length - 16 : Nat) : Int)
             · rw [if_pos h6,if_neg (by intro e;have:=congrArg List.length e;rw [List.length_drop] at this;simp at this;omega)]
               rfl
             · rw [if_neg h6];rfl
           · rw [if_neg h5];rfl
         · rw [if_neg h4];rfl
       · rw [if_neg h3];rfl
     · rw [if_neg h2];rfl
   · rw [if_neg h1]
structure Rt where
 count : BitVec 64
 epoch : BitVec 32
 slots : Int
 hash : qAw
deriving DecidableEq
def Rt.val (r : Rt) : Value:=.agg #[U r.count,W r.epoch,.int .i64 r.slots,U r.hash.1,U r.hash.2]
def Rt.zero : Rt:=⟨0#64,0#32,0,(0#64,0#64)⟩
def qD9 (n : Int) : Bool:=n == 4 || n == 8 || n == 16
theorem qKe {n : Int} (h : qD9 n = true) : n = 4 ∨ n = 8 ∨ n = 16:=by
 unfold qD9 at h
 simp only [Bool.or_eq_true,beq_iff_eq] at h
 rcases h with (h | h) | h
 · exact .inl h
 · exact .inr (.inl h)
 · exact .inr (.inr h)
def qDP (r : Rt) : List UInt8:=qAY r.count 8 ++ qAY (r.epoch.setWidth 64) 4 ++ qAY (BitVec.ofInt 64 r.slots) 4 ++ qAK r.hash
theorem qBn (r : Rt) : (qDP r).length = 32:=by simp [qDP,qAe,qAo]
def qC6 (bs : List UInt8) : Rt:=⟨qAh (bs.take 8),(qAh ((bs.drop 8).take 4)).setWidth 32,((qAh ((bs.drop 12).take 4)).toNat : Int),qAn (bs.drop 16)⟩
theorem qLs (bs : List UInt8) (h : bs.length = 4) : (qAh bs).toNat < 4294967296:=by
 rw [qFU bs (by omega)]
 have:=qIj bs
 rw [h] at this
 exact this
def qKf (bs : List UInt8) : Option Rt:=if bs.length = 32 ∧ qD9 (qC6 bs).slots = true then some (qC6 bs) else none
theorem qDQ (bs : List UInt8) : qEL bs [8,4,4,16] = if bs.length = 32 then some [bs.take 8,(bs.drop 8).take 4,(bs.drop 12).take 4,bs.drop 16] else none:=by
 simp only [qEL,Int.reduceLE,true_and,Int.reduceToNat,List.drop_drop,Nat.reduceAdd,List.length_drop]
 by_cases h : bs.length = 32
 · rw [if_pos h,if_pos (by omega),if_pos (by omega),if_pos (by omega),if_pos (by omega),if_pos (List.drop_of_length_le (by omega))]
   simp only [Option.map_some]
   rw [List.take_of_length_le (l:=bs.drop 16) (by rw [List.length_drop];omega)]
 · rw [if_neg h]
   by_cases h1 : (8 : Int) ≤ bs.length
   · rw [if_pos h1]
     by_cases h2 : (4 : Int) ≤ ((bs.length - 8 : Nat) : Int)
     · rw [if_pos h2]
       by_cases h3 : (4 : Int) ≤ ((bs.length - 12 : Nat) : Int)
       · rw [if_pos h3]
         by_cases h4 : (16 : Int) ≤ ((bs.length - 16 : Nat) : Int)
         · rw [if_pos h4,if_neg (by intro e;have:=congrArg List.length e;rw [List.length_drop] at this;simp at this;omega)]
           rfl
         · rw [if_neg h4];rfl
       · rw [if_neg h3];rfl
     · rw [if_neg h2];rfl
   · rw [if_neg h1]
def qOB (n : Nn) (bs : List UInt8) (tag : qAw) : List UInt8:=qAY (n.epoch.setWidth 64) 4 ++ qAY n.version 8 ++ bs ++ qAK tag
theorem qF3 (n : Nn) (bs : List UInt8) (tag : qAw) (h : bs.length = 32) : (qOB n bs tag).length = 60:=by simp [qOB,qAe,qAo,h]
def qQr (bs : List UInt8) : Nn:=⟨(qAh (bs.take 4)).setWidth 32,65535#32,qAh ((bs.drop 4).take 8)⟩
def qPM (bs : List UInt8) : List UInt8:=(bs.drop 12).take 32
def qPl (bs : List UInt8) : qAw:=qAn (bs.drop 44)
theorem qID (bs : List UInt8) : qEL bs [4,8,32,16] = if bs.length = 60 then some [bs.take 4,(bs.drop 4).take 8,(bs.drop 12).take 32,bs.drop 44] else none:=by
 simp only [qEL,Int.reduceLE,true_and,Int.reduceToNat,List.drop_drop,Nat.reduceAdd,List.length_drop]
 by_cases h : bs.length = 60
 · rw [if_pos h,if_pos (by omega),if_pos (by omega),if_pos (by omega),if_pos (by omega),if_pos (List.drop_of_length_le (by omega))]
   simp only [Option.map_some]
   rw [List.take_of_length_le (l:=bs.drop 44) (by rw [List.length_drop];omega)]
 · rw [if_neg h]
   by_cases h1 : (4 : Int) ≤ bs.length
   · rw [if_pos h1]
     by_cases h2 : (8 : Int) ≤ ((bs.length - 4 : Nat) : Int)
     · rw [if_pos h2]
       by_cases h3 : (32 : Int) ≤ ((bs.length - 12 : Nat) : Int)
       · rw [if_pos h3]
         by_cases h4 : (16 : Int) ≤ ((bs.length - 44 : Nat) : Int)
         · rw [if_pos h4,if_neg (by intro e;have:=congrArg List.length e;rw [List.length_drop] at this;simp at this;omega)]
           rfl
         · rw [if_neg h4];rfl
       · rw [if_neg h3];rfl
     · rw [if_neg h2];rfl
   · rw [if_neg h1]
end Go.Proofs.YtdlgihbpiakebaaGreat
