import Derived.Test.YtdlgihbpiakebaaGreatMd01
import Derived.Test.YtdlgihbpiakebaaGreatMd11
import Derived.Test.YtdlgihbpiakebaaGreatMd16
set_option maxRecDepth 100000
set_option maxHeartbeats 4000000
namespace Go.Proofs.YtdlgihbpiakebaaGreat
open Go
theorem qHl (bs : List UInt8) (n : Nat) (h : bs.length = n) (hn : n ≤ 8) : (qAn bs).toNat < 256 ^ n:=by
 rw [qER bs (by omega),← h]
 exact qJ9 bs
theorem qOj (v : BitVec 32) : (qAn (qB2 (v.setWidth 64) 4)).setWidth 32 = v:=by
 apply BitVec.eq_of_toNat_eq
 rw [BitVec.toNat_setWidth,qI7 _ 4 (by omega),BitVec.toNat_setWidth]
 have:=v.isLt
 omega
structure Lf where
 kind : Int
 dirty : Bool
 lba : Int
 ep : BitVec 32
 sl : BitVec 32
 ver : BitVec 64
 tag : qAB
deriving DecidableEq
def qRy (a b : Lf) : Bool:=decide (a = b)
def Lf.val (l : Lf) : Value:=.agg #[.int .i64 l.kind,.bool l.dirty,.int .i64 l.lba,W l.ep,W l.sl,U l.ver,U l.tag.1,U l.tag.2]
def Lf.zero : Lf:=⟨0,false,0,0#32,0#32,0#64,(0#64,0#64)⟩
def qC4 (n : Int) : Bool:=decide (0 ≤ n) && decide (n < 32)
def qAR (l : Lf) (s : Int) : Bool :=
 (decide (0 ≤ s) && decide (s < 16)) &&
 (if l.kind = 0 then decide (l = Lf.zero)
  else if l.kind = 2 then qC4 l.lba && decide (l = ⟨2,true,l.lba,0#32,0#32,0#64,(0#64,0#64)⟩)
  else if l.kind = 1 then qC4 l.lba && (l.sl == BitVec.ofInt 32 s) && decide (0#32 < l.ep)
  else false)
def qMv (b : Bool) : BitVec 64:=if b then 1#64 else 0#64
def qDc (l : Lf) : List UInt8:=qB2 (BitVec.ofInt 64 l.kind) 1 ++ qB2 (qMv l.dirty) 1 ++ qB2 (BitVec.ofInt 64 l.lba) 2 ++ qB2 (l.ep.setWidth 64) 4 ++ qB2 l.ver 8 ++ qAN l.tag
theorem qBp (l : Lf) : (qDc l).length = 32:=by simp [qDc,qAb,qAr]
def qFQ (bs : List UInt8) (s : Int) : Lf :=
 ⟨((qAn (bs.take 1)).toNat : Int),qAn ((bs.drop 1).take 1) == 1#64,((qAn ((bs.drop 2).take 2)).toNat : Int),(qAn ((bs.drop 4).take 4)).setWidth 32,
  if ((qAn (bs.take 1)).toNat : Int) = 1 then BitVec.ofInt 32 s else 0#32,qAn ((bs.drop 8).take 8),qAq (bs.drop 16)⟩
def qBU (bs : List UInt8) (s : Int) : Option Lf:=if bs.length = 32 ∧ qAR (qFQ bs s) s = true ∧ qDc (qFQ bs s) = bs then some (qFQ bs s) else none
theorem qEu (bs : List UInt8) : qFx bs [1,1,2,4,8,16] = if bs.length = 32 then some [bs.take 1,(bs.drop 1).take 1,(bs.drop 2).take 2,(bs.drop 4).take 4,(bs.drop 8).take 8,bs.drop 16] else none:=by
 simp only [qFx,Int.reduceLE,true_and,Int.reduceToNat,List.drop_drop,Nat.reduceAdd,List.length_drop]
 by_cases h : bs.length = 32
 · rw [if_pos h,if_pos (by omega),if_pos (by omega),if_pos (by omega),if_pos (by omega),if_pos (by omega),if_pos (by omega),if_pos (List.drop_of_length_le (by omega))]
   simp only [Option.map_some]
   rw [List.take_of_length_le (l:=bs.drop 16) (by rw [List.length_drop];omega)]
 · rw [if_neg h]
   by_cases h1 : (1 : Int) ≤ bs.length
   · rw [if_pos h1]
     by_cases h2 : (1 : Int) ≤ ((bs.length - 1 : Nat) : Int)
     · rw [if_pos h2]
       by_cases h3 : (2 : Int) ≤ ((bs.length - 2 : Nat) : Int)
       · rw [if_pos h3]
         by_cases h4 : (4 : Int) ≤ ((bs.length - 4 : Nat) : Int)
         · rw [if_pos h4]
           by_cases h5 : (8 : Int) ≤ ((bs.length - 8 : Nat) : Int)
           · rw [if_pos h5]
             by_cases h6 : (16 : Int) ≤ ((bs.length - 16 : Nat) : Int)
             · rw [if_pos h6,if_neg (by intro e;have:=congrArg List.length e;rw [List.length_drop] at this;simp at this;omega)]
               rfl
             · rw [if_neg h6];rfl
           · rw [if_neg h5];rfl
         · rw [if_neg h4];rfl
       · rw [if_neg h3];rfl
     · rw [if_neg h2];rfl
   · rw [if_neg h1]
structure Rt where
 count : BitVec 64
 epoch : BitVec 32
 slots : Int
 hash : qAB
deriving DecidableEq
def Rt.val (r : Rt) : Value:=.agg #[U r.count,W r.epoch,.int .i64 r.slots,U r.hash.1,U r.hash.2]
def Rt.zero : Rt:=⟨0#64,0#32,0,(0#64,0#64)⟩
def qDR (n : Int) : Bool:=n == 4 || n == 8 || n == 16
theorem qLa {n : Int} (h : qDR n = true) : n = 4 ∨ n = 8 ∨ n = 16:=by
 unfold qDR at h
 simp only [Bool.or_eq_true,beq_iff_eq] at h
 rcases h with (h | h) | h
 · exact .inl h
 · exact .inr (.inl h)
 · exact .inr (.inr h)
def qDm (r : Rt) : List UInt8:=qB2 r.count 8 ++ qB2 (r.epoch.setWidth 64) 4 ++ qB2 (BitVec.ofInt 64 r.slots) 4 ++ qAN r.hash
theorem qBd (r : Rt) : (qDm r).length = 32:=by simp [qDm,qAb,qAr]
def qCy (bs : List UInt8) : Rt:=⟨qAn (bs.take 8),(qAn ((bs.drop 8).take 4)).setWidth 32,((qAn ((bs.drop 12).take 4)).toNat : Int),qAq (bs.drop 16)⟩
theorem qMw (bs : List UInt8) (h : bs.length = 4) : (qAn bs).toNat < 4294967296:=by
 rw [qER bs (by omega)]
 have:=qJ9 bs
 rw [h] at this
 exact this
def qLb (bs : List UInt8) : Option Rt:=if bs.length = 32 ∧ qDR (qCy bs).slots = true then some (qCy bs) else none
theorem qEv (bs : List UInt8) : qFx bs [8,4,4,16] = if bs.length = 32 then some [bs.take 8,(bs.drop 8).take 4,(bs.drop 12).take 4,bs.drop 16] else none:=by
 simp only [qFx,Int.reduceLE,true_and,Int.reduceToNat,List.drop_drop,Nat.reduceAdd,List.length_drop]
 by_cases h : bs.length = 32
 · rw [if_pos h,if_pos (by omega),if_pos (by omega),if_pos (by omega),if_pos (by omega),if_pos (List.drop_of_length_le (by omega))]
   simp only [Option.map_some]
   rw [List.take_of_length_le (l:=bs.drop 16) (by rw [List.length_drop];omega)]
 · rw [if_neg h]
   by_cases h1 : (8 : Int) ≤ bs.length
   · rw [if_pos h1]
     by_cases h2 : (4 : Int) ≤ ((bs.length - 8 : Nat) : Int)
     · rw [if_pos h2]
       by_cases h3 : (4 : Int) ≤ ((bs.length - 12 : Nat) : Int)
       · rw [if_pos h3]
         by_cases h4 : (16 : Int) ≤ ((bs.length - 16 : Nat) : Int)
         · rw [if_pos h4,if_neg (by intro e;have:=congrArg List.length e;rw [List.length_drop] at this;simp at this;omega)]
           rfl
         · rw [if_neg h4];rfl
       · rw [if_neg h3];rfl
     · rw [if_neg h2];rfl
   · rw [if_neg h1]
def qFA (n : Nn) (bs : List UInt8) (tag : qAB) : List UInt8:=qB2 (n.epoch.setWidth 64) 4 ++ qB2 n.version 8 ++ bs ++ qAN tag
theorem qCn (n : Nn) (bs : List UInt8) (tag : qAB) (h : bs.length = 32) : (qFA n bs tag).length = 60:=by simp [qFA,qAb,qAr,h]
def qQv (bs : List UInt8) : Nn:=⟨(qAn (bs.take 4)).setWidth 32,65535#32,qAn ((bs.drop 4).take 8)⟩
def qQw (bs : List UInt8) : List UInt8:=(bs.drop 12).take 32
def qPj (bs : List UInt8) : qAB:=qAq (bs.drop 44)
theorem qOk (n : Nn) (bs : List UInt8) (tag : qAB) (hs : n.slot = 65535#32) (h : bs.length = 32) : qQv (qFA n bs tag) = n ∧ qQw (qFA n bs tag) = bs ∧ qPj (qFA n bs tag) = tag:=by
 have l1:=qAb (n.epoch.setWidth 64) 4
 have l2:=qAb n.version 8
 have e1 : (qFA n bs tag).take 4 = qB2 (n.epoch.setWidth 64) 4:=by
  unfold qFA
  rw [List.append_assoc,List.append_assoc,List.take_append_of_le_length (by omega),List.take_of_length_le (by omega)]
 have e2 : ((qFA n bs tag).drop 4).take 8 = qB2 n.version 8:=by
  unfold qFA
  rw [List.append_assoc,List.append_assoc,List.drop_append_of_le_length (by omega),List.drop_of_length_le (by omega),List.nil_append,List.take_append_of_le_length (by omega),List.take_of_length_le (by omega)]
 have e3 : ((qFA n bs tag).drop 12).take 32 = bs:=by
  unfold qFA
  rw [List.append_assoc,List.drop_append_of_le_length (by simp [qAb]),List.drop_of_length_le (by simp [qAb]),List.nil_append,List.take_append_of_le_length (by omega),List.take_of_length_le (by omega)]
 have e4 : (qFA n bs tag).drop 44 = qAN tag:=by
  unfold qFA
  rw [List.drop_append_of_le_length (by simp [qAb,h]),List.drop_of_length_le (by simp [qAb,h]),List.nil_append]
 refine ⟨?_,e3,?_⟩
 · unfold qQv
   rw [e1,e2,qOj,qES]
   obtain ⟨a,b,c⟩:=n
   simp only at hs
   rw [hs]
 · unfold qPj
   rw [e4,qJa]
theorem qJu (bs : List UInt8) : qFx bs [4,8,32,16] = if bs.length = 60 then some [bs.take 4,(bs.drop 4).take 8,(bs.drop 12).take 32,bs.drop 44] else none:=by
 simp only [qFx,Int.reduceLE,true_and,Int.reduceToNat,List.drop_drop,Nat.reduceAdd,List.length_drop]
 by_cases h : bs.length = 60
 · rw [if_pos h,if_pos (by omega),if_pos (by omega),if_pos (by omega),if_pos (by omega),if_pos (List.drop_of_length_le (by omega))]
   simp only [Option.map_some]
   rw [List.take_of_length_le (l:=bs.drop 44) (by rw [List.length_drop];omega)]
 · rw [if_neg h]
   by_cases h1 : (4 : Int) ≤ bs.length
   · rw [if_pos h1]
     by_cases h2 : (8 : Int) ≤ ((bs.length - 4 : Nat) : Int)
     · rw [if_pos h2]
       by_cases h3 : (32 : Int) ≤ ((bs.length - 12 : Nat) : Int)
       · rw [if_pos h3]
         by_cases h4 : (16 : Int) ≤ ((bs.length - 44 : Nat) : Int)
         · rw [if_pos h4,if_neg (by intro e;have:=congrArg List.length e;rw [List.length_drop] at this;simp at this;omega)]
           rfl
         · rw [if_neg h4];rfl
       · rw [if_neg h3];rfl
     · rw [if_neg h2];rfl
   · rw [if_neg h1]
end Go.Proofs.YtdlgihbpiakebaaGreat
