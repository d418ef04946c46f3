import Derived.Test.YtdlgihbpiakebaaGreatMb01
import Derived.Test.YtdlgihbpiakebaaGreatMb11
import Derived.Test.YtdlgihbpiakebaaGreatMb16
set_option maxRecDepth 100000
set_option maxHeartbeats 4000000
namespace Go.Proofs.YtdlgihbpiakebaaGreat
open Go
theorem qHh (bs : List UInt8) (n : Nat) (h : bs.length = n) (hn : n ≤ 8) : (qAm bs).toNat < 256 ^ n:=by
 rw [qER bs (by omega),← h]
 exact qJf bs
theorem qHi (v : BitVec 32) : (qAm (qAF (v.setWidth 64) 4)).setWidth 32 = v:=by
 apply BitVec.eq_of_toNat_eq
 rw [BitVec.toNat_setWidth,qEd _ 4 (by omega),BitVec.toNat_setWidth]
 have:=v.isLt
 omega
theorem qKp (n : Int) (k : Nat) (hk : k ≤ 7) (h0 : 0 ≤ n) (h1 : n < 256 ^ k) : ((qAm (qAF (BitVec.ofInt 64 n) k)).toNat : Int) = n:=by
 rw [qEd _ k (by omega),BitVec.toNat_ofInt]
 have h9 : (256 : Nat) ^ k ≤ 256 ^ 7:=Nat.pow_le_pow_right (by omega) hk
 have e : (256 : Nat) ^ 7 = 72057594037927936:=by decide
 have h8 : (256 : Int) ^ k = ((256 ^ k : Nat) : Int):=by rw [Int.natCast_pow];rfl
 rw [h8] at h1
 have h3 : ((n % ((2 ^ 64 : Nat) : Int)).toNat : Int) = n:=by omega
 have h2 : (n % ((2 ^ 64 : Nat) : Int)).toNat < 256 ^ k:=by
  have h4 : ((n % ((2 ^ 64 : Nat) : Int)).toNat : Int) < ((256 ^ k : Nat) : Int):=by rw [h3];exact h1
  omega
 rw [Nat.mod_eq_of_lt h2]
 exact h3
structure Lf where
 kind : Int
 dirty : Bool
 lba : Int
 ep : BitVec 32
 sl : BitVec 32
 ver : BitVec 64
 tag : qAB
deriving DecidableEq
def qRE (a b : Lf) : Bool:=decide (a = b)
def Lf.val (l : Lf) : Value:=.agg #[.int .i64 l.kind,.bool l.dirty,.int .i64 l.lba,W l.ep,W l.sl,U l.ver,U l.tag.1,U l.tag.2]
def Lf.zero : Lf:=⟨0,false,0,0#32,0#32,0#64,(0#64,0#64)⟩
def qBP (n : Int) : Bool:=decide (0 ≤ n) && decide (n < 32)
def qAJ (l : Lf) (s : Int) : Bool :=
 (decide (0 ≤ s) && decide (s < 16)) &&
 (if l.kind = 0 then decide (l = Lf.zero)
  else if l.kind = 2 then qBP l.lba && decide (l = ⟨2,true,l.lba,0#32,0#32,0#64,(0#64,0#64)⟩)
  else if l.kind = 1 then qBP l.lba && (l.sl == BitVec.ofInt 32 s) && decide (0#32 < l.ep)
  else false)
def qEn (b : Bool) : BitVec 64:=if b then 1#64 else 0#64
def qBo (l : Lf) : List UInt8:=qAF (BitVec.ofInt 64 l.kind) 1 ++ qAF (qEn l.dirty) 1 ++ qAF (BitVec.ofInt 64 l.lba) 2 ++ qAF (l.ep.setWidth 64) 4 ++ qAF l.ver 8 ++ qAH l.tag
theorem qBd (l : Lf) : (qBo l).length = 32:=by simp [qBo,qA9,qAr]
def qEo (bs : List UInt8) (s : Int) : Lf :=
 ⟨((qAm (bs.take 1)).toNat : Int),qAm ((bs.drop 1).take 1) == 1#64,((qAm ((bs.drop 2).take 2)).toNat : Int),(qAm ((bs.drop 4).take 4)).setWidth 32,
  if ((qAm (bs.take 1)).toNat : Int) = 1 then BitVec.ofInt 32 s else 0#32,qAm ((bs.drop 8).take 8),qAq (bs.drop 16)⟩
def qBL (bs : List UInt8) (s : Int) : Option Lf:=if bs.length = 32 ∧ qAJ (qEo bs s) s = true ∧ qBo (qEo bs s) = bs then some (qEo bs s) else none
theorem qId {l : Lf} {s : Int} (h : qAJ l s = true) : l = Lf.zero ∨ (l = ⟨2,true,l.lba,0#32,0#32,0#64,(0#64,0#64)⟩ ∧ 0 ≤ l.lba ∧ l.lba < 32) ∨ (l.kind = 1 ∧ 0 ≤ l.lba ∧ l.lba < 32 ∧ l.sl = BitVec.ofInt 32 s ∧ 0#32 < l.ep):=by
 unfold qAJ at h
 simp only [Bool.and_eq_true] at h
 obtain ⟨_,h⟩:=h
 split at h
 · exact .inl (of_decide_eq_true h)
 · split at h
   · simp only [Bool.and_eq_true,qBP,decide_eq_true_eq] at h
     exact .inr (.inl ⟨h.2,h.1.1,h.1.2⟩)
   · split at h
     · simp only [Bool.and_eq_true,qBP,decide_eq_true_eq,beq_iff_eq] at h
       exact .inr (.inr ⟨by assumption,h.1.1.1,h.1.1.2,h.1.2,h.2⟩)
     · cases h
theorem qIe (l : Lf) (s : Int) (h : qAJ l s = true) : qEo (qBo l) s = l:=by
 have l1:=qA9 (BitVec.ofInt 64 l.kind) 1
 have l2:=qA9 (qEn l.dirty) 1
 have l3:=qA9 (BitVec.ofInt 64 l.lba) 2
 have l4:=qA9 (l.ep.setWidth 64) 4
 have l5:=qA9 l.ver 8
 have e1 : (qBo l).take 1 = qAF (BitVec.ofInt 64 l.kind) 1:=by
  unfold qBo
  simp only [List.append_assoc]
  rw [List.take_append_of_le_length (by omega),List.take_of_length_le (by omega)]
 have e2 : ((qBo l).drop 1).take 1 = qAF (qEn l.dirty) 1:=by
  unfold qBo
  simp only [List.append_assoc]
  rw [List.drop_append_of_le_length (by omega),List.drop_of_length_le (by omega),List.nil_append,List.take_append_of_le_length (by omega),List.take_of_length_le (by omega)]
 have e3 : ((qBo l).drop 2).take 2 = qAF (BitVec.ofInt 64 l.lba) 2:=by
  have : qBo l = (qAF (BitVec.ofInt 64 l.kind) 1 ++ qAF (qEn l.dirty) 1) ++ (qAF (BitVec.ofInt 64 l.lba) 2 ++ (qAF (l.ep.setWidth 64) 4 ++ qAF l.ver 8 ++ qAH l.tag)):=by simp [qBo]
  rw [this,List.drop_append_of_le_length (by simp [l1,l2]),List.drop_of_length_le (by simp [l1,l2]),List.nil_append,List.take_append_of_le_length (by omega),List.take_of_length_le (by omega)]
 have e4 : ((qBo l).drop 4).take 4 = qAF (l.ep.setWidth 64) 4:=by
  have : qBo l = (qAF (BitVec.ofInt 64 l.kind) 1 ++ qAF (qEn l.dirty) 1 ++ qAF (BitVec.ofInt 64 l.lba) 2) ++ (qAF (l.ep.setWidth 64) 4 ++ (qAF l.ver 8 ++ qAH l.tag)):=by simp [qBo]
  rw [this,List.drop_append_of_le_length (by simp [l1,l2,l3]),List.drop_of_length_le (by simp [l1,l2,l3]),List.nil_append,List.take_append_of_le_length (by omega),List.take_of_length_le (by omega)]
 have e5 : ((qBo l).drop 8).take 8 = qAF l.ver 8:=by
  have : qBo l = (qAF (BitVec.ofInt 64 l.kind) 1 ++ qAF (qEn l.dirty) 1 ++ qAF (BitVec.ofInt 64 l.lba) 2 ++ qAF (l.ep.setWidth 64) 4) ++ (qAF l.ver 8 ++ qAH l.tag):=by simp [qBo]
  rw [this,List.drop_append_of_le_length (by simp [l1,l2,l3,l4]),List.drop_of_length_le (by simp [l1,l2,l3,l4]),List.nil_append,List.take_append_of_le_length (by omega),List.take_of_length_le (by omega)]
 have e6 : (qBo l).drop 16 = qAH l.tag:=by
  unfold qBo
  rw [List.drop_append_of_le_length (by simp [l1,l2,l3,l4,l5]),List.drop_of_length_le (by simp [l1,l2,l3,l4,l5]),List.nil_append]
 have hk : 0 ≤ l.kind ∧ l.kind < 256 ^ 1 ∧ 0 ≤ l.lba ∧ l.lba < 256 ^ 2 ∧ (l.sl = if l.kind = 1 then BitVec.ofInt 32 s else 0#32):=by
  rcases qId h with e | ⟨e,a,b⟩ | ⟨e,a,b,c,_⟩
  · rw [e];simp [Lf.zero]
  · have e2:=congrArg Lf.kind e
    have e3:=congrArg Lf.sl e
    simp only at e2 e3
    refine ⟨by omega,by omega,a,by omega,?_⟩
    rw [e3,e2];rfl
  · refine ⟨by omega,by omega,a,by omega,?_⟩
    rw [if_pos e];exact c
 unfold qEo
 rw [e1,e2,e3,e4,e5,e6,qKp _ 1 (by omega) hk.1 hk.2.1,qKp _ 2 (by omega) hk.2.2.1 hk.2.2.2.1,qHi,qCK,qDR,← hk.2.2.2.2]
 have hd : (qAm (qAF (qEn l.dirty) 1) == 1#64) = l.dirty:=by cases l.dirty <;> decide
 rw [hd]
theorem qJz (l : Lf) (s : Int) (h : qAJ l s = true) : qBL (qBo l) s = some l:=by
 unfold qBL
 rw [qIe l s h,qBd,if_pos ⟨rfl,h,rfl⟩]
theorem qEp (bs : List UInt8) : qFz bs [1,1,2,4,8,16] = if bs.length = 32 then some [bs.take 1,(bs.drop 1).take 1,(bs.drop 2).take 2,(bs.drop 4).take 4,(bs.drop 8).take 8,bs.drop 16] else none:=by
 simp only [qFz,Int.reduceLE,true_and,Int.reduceToNat,List.drop_drop,Nat.reduceAdd,List.length_drop]
 by_cases h : bs.length = 32
 · rw [if_pos h,if_pos (by omega),if_pos (by omega),if_pos (by omega),if_pos (by omega),if_pos (by omega),if_pos (by omega),if_pos (List.drop_of_length_le (by omega))]
   simp only [Option.map_some]
   rw [List.take_of_length_le (l:=bs.drop 16) (by rw [List.length_drop];omega)]
 · rw [if_neg h]
   by_cases h1 : (1 : Int) ≤ bs.length
   · rw [if_pos h1]
     by_cases h2 : (1 : Int) ≤ ((bs.length - 1 : Nat) : Int)
     · rw [if_pos h2]
       by_cases h3 : (2 : Int) ≤ ((bs.length - 2 : Nat) : Int)
       · rw [if_pos h3]
         by_cases h4 : (4 : Int) ≤ ((bs.length - 4 : Nat) : Int)
         · rw [if_pos h4]
           by_cases h5 : (8 : Int) ≤ ((bs.length - 8 : Nat) : Int)
           · rw [if_pos h5]
             by_cases h6 : (16 : Int) ≤ ((bs.length - 16 : Nat) : Int)
             · rw [if_pos h6,if_neg (by intro e;have:=congrArg List.length e;rw [List.length_drop] at this;simp at this;omega)]
               rfl
             · rw [if_neg h6];rfl
           · rw [if_neg h5];rfl
         · rw [if_neg h4];rfl
       · rw [if_neg h3];rfl
     · rw [if_neg h2];rfl
   · rw [if_neg h1]
structure Rt where
 count : BitVec 64
 epoch : BitVec 32
 slots : Int
 hash : qAB
deriving DecidableEq
def Rt.val (r : Rt) : Value:=.agg #[U r.count,W r.epoch,.int .i64 r.slots,U r.hash.1,U r.hash.2]
def Rt.zero : Rt:=⟨0#64,0#32,0,(0#64,0#64)⟩
def qDd (n : Int) : Bool:=n == 4 || n == 8 || n == 16
theorem qGJ {n : Int} (h : qDd n = true) : n = 4 ∨ n = 8 ∨ n = 16:=by
 unfold qDd at h
 simp only [Bool.or_eq_true,beq_iff_eq] at h
 rcases h with (h | h) | h
 · exact .inl h
 · exact .inr (.inl h)
 · exact .inr (.inr h)
def qCO (r : Rt) : List UInt8:=qAF r.count 8 ++ qAF (r.epoch.setWidth 64) 4 ++ qAF (BitVec.ofInt 64 r.slots) 4 ++ qAH r.hash
theorem qBe (r : Rt) : (qCO r).length = 32:=by simp [qCO,qA9,qAr]
def qC3 (bs : List UInt8) : Rt:=⟨qAm (bs.take 8),(qAm ((bs.drop 8).take 4)).setWidth 32,((qAm ((bs.drop 12).take 4)).toNat : Int),qAq (bs.drop 16)⟩
theorem qMz (bs : List UInt8) (h : bs.length = 4) : (qAm bs).toNat < 4294967296:=by
 rw [qER bs (by omega)]
 have:=qJf bs
 rw [h] at this
 exact this
theorem qMA (n : Int) (h0 : 0 ≤ n) (h1 : n < 4294967296) : ((qAm (qAF (BitVec.ofInt 64 n) 4)).toNat : Int) = n:=by
 rw [qEd _ 4 (by omega),BitVec.toNat_ofInt]
 omega
theorem qIf (r : Rt) (h : qDd r.slots = true) : qC3 (qCO r) = r:=by
 have hn : 0 ≤ r.slots ∧ r.slots < 4294967296:=by rcases qGJ h with h | h | h <;> omega
 have l1:=qA9 r.count 8
 have l2:=qA9 (r.epoch.setWidth 64) 4
 have l3:=qA9 (BitVec.ofInt 64 r.slots) 4
 unfold qC3 qCO
 have e1 : (qAF r.count 8 ++ qAF (r.epoch.setWidth 64) 4 ++ qAF (BitVec.ofInt 64 r.slots) 4 ++ qAH r.hash).take 8 = qAF r.count 8:=by
  rw [List.append_assoc,List.append_assoc,List.take_append_of_le_length (by omega),List.take_of_length_le (by omega)]
 have e2 : ((qAF r.count 8 ++ qAF (r.epoch.setWidth 64) 4 ++ qAF (BitVec.ofInt 64 r.slots) 4 ++ qAH r.hash).drop 8).take 4 = qAF (r.epoch.setWidth 64) 4:=by
  rw [List.append_assoc,List.append_assoc,List.drop_append_of_le_length (by omega),List.drop_of_length_le (by omega),List.nil_append,List.take_append_of_le_length (by omega),List.take_of_length_le (by omega)]
 have e3 : ((qAF r.count 8 ++ qAF (r.epoch.setWidth 64) 4 ++ qAF (BitVec.ofInt 64 r.slots) 4 ++ qAH r.hash).drop 12).take 4 = qAF (BitVec.ofInt 64 r.slots) 4:=by
  rw [List.append_assoc,List.drop_append_of_le_length (by simp [qA9]),List.drop_of_length_le (by simp [qA9]),List.nil_append,List.take_append_of_le_length (by omega),List.take_of_length_le (by omega)]
 have e4 : (qAF r.count 8 ++ qAF (r.epoch.setWidth 64) 4 ++ qAF (BitVec.ofInt 64 r.slots) 4 ++ qAH r.hash).drop 16 = qAH r.hash:=by
  rw [List.drop_append_of_le_length (by simp [qA9]),List.drop_of_length_le (by simp [qA9]),List.nil_append]
 rw [e1,e2,e3,e4,qCK,qHi,qMA _ hn.1 hn.2,qDR]
def qIg (bs : List UInt8) : Option Rt:=if bs.length = 32 ∧ qDd (qC3 bs).slots = true then some (qC3 bs) else none
theorem qJA (r : Rt) (h : qDd r.slots = true) : qIg (qCO r) = some r:=by
 unfold qIg
 rw [qIf r h,qBe,if_pos ⟨rfl,h⟩]
theorem qEq (bs : List UInt8) : qFz bs [8,4,4,16] = if bs.length = 32 then some [bs.take 8,(bs.drop 8).take 4,(bs.drop 12).take 4,bs.drop 16] else none:=by
 simp only [qFz,Int.reduceLE,true_and,Int.reduceToNat,List.drop_drop,Nat.reduceAdd,List.length_drop]
 by_cases h : bs.length = 32
 · rw [if_pos h,if_pos (by omega),if_pos (by omega),if_pos (by omega),if_pos (by omega),if_pos (List.drop_of_length_le (by omega))]
   simp only [Option.map_some]
   rw [List.take_of_length_le (l:=bs.drop 16) (by rw [List.length_drop];omega)]
 · rw [if_neg h]
   by_cases h1 : (8 : Int) ≤ bs.length
   · rw [if_pos h1]
     by_cases h2 : (4 : Int) ≤ ((bs.length - 8 : Nat) : Int)
     · rw [if_pos h2]
       by_cases h3 : (4 : Int) ≤ ((bs.length - 12 : Nat) : Int)
       · rw [if_pos h3]
         by_cases h4 : (16 : Int) ≤ ((bs.length - 16 : Nat) : Int)
         · rw [if_pos h4,if_neg (by intro e;have:=congrArg List.length e;rw [List.length_drop] at this;simp at this;omega)]
           rfl
         · rw [if_neg h4];rfl
       · rw [if_neg h3];rfl
     · rw [if_neg h2];rfl
   · rw [if_neg h1]
def qFC (n : Nn) (bs : List UInt8) (tag : qAB) : List UInt8:=qAF (n.epoch.setWidth 64) 4 ++ qAF n.version 8 ++ bs ++ qAH tag
theorem qD3 (n : Nn) (bs : List UInt8) (tag : qAB) (h : bs.length = 32) : (qFC n bs tag).length = 60:=by simp [qFC,qA9,qAr,h]
def qQz (bs : List UInt8) : Nn:=⟨(qAm (bs.take 4)).setWidth 32,65535#32,qAm ((bs.drop 4).take 8)⟩
def qQA (bs : List UInt8) : List UInt8:=(bs.drop 12).take 32
def qPn (bs : List UInt8) : qAB:=qAq (bs.drop 44)
theorem qOq (n : Nn) (bs : List UInt8) (tag : qAB) (hs : n.slot = 65535#32) (h : bs.length = 32) : qQz (qFC n bs tag) = n ∧ qQA (qFC n bs tag) = bs ∧ qPn (qFC n bs tag) = tag:=by
 have l1:=qA9 (n.epoch.setWidth 64) 4
 have l2:=qA9 n.version 8
 have e1 : (qFC n bs tag).take 4 = qAF (n.epoch.setWidth 64) 4:=by
  unfold qFC
  rw [List.append_assoc,List.append_assoc,List.take_append_of_le_length (by omega),List.take_of_length_le (by omega)]
 have e2 : ((qFC n bs tag).drop 4).take 8 = qAF n.version 8:=by
  unfold qFC
  rw [List.append_assoc,List.append_assoc,List.drop_append_of_le_length (by omega),List.drop_of_length_le (by omega),List.nil_append,List.take_append_of_le_length (by omega),List.take_of_length_le (by omega)]
 have e3 : ((qFC n bs tag).drop 12).take 32 = bs:=by
  unfold qFC
  rw [List.append_assoc,List.drop_append_of_le_length (by simp [qA9]),List.drop_of_length_le (by simp [qA9]),List.nil_append,List.take_append_of_le_length (by omega),List.take_of_length_le (by omega)]
 have e4 : (qFC n bs tag).drop 44 = qAH tag:=by
  unfold qFC
  rw [List.drop_append_of_le_length (by simp [qA9,h]),List.drop_of_length_le (by simp [qA9,h]),List.nil_append]
 refine ⟨?_,e3,?_⟩
 · unfold qQz
   rw [e1,e2,qHi,qCK]
   obtain ⟨a,b,c⟩:=n
   simp only at hs
   rw [hs]
 · unfold qPn
   rw [e4,qDR]
theorem qJB (bs : List UInt8) : qFz bs [4,8,32,16] = if bs.length = 60 then some [bs.take 4,(bs.drop 4).take 8,(bs.drop 12).take 32,bs.drop 44] else none:=by
 simp only [qFz,Int.reduceLE,true_and,Int.reduceToNat,List.drop_drop,Nat.reduceAdd,List.length_drop]
 by_cases h : bs.length = 60
 · rw [if_pos h,if_pos (by omega),if_pos (by omega),if_pos (by omega),if_pos (by omega),if_pos (List.drop_of_length_le (by omega))]
   simp only [Option.map_some]
   rw [List.take_of_length_le (l:=bs.drop 44) (by rw [List.length_drop];omega)]
 · rw [if_neg h]
   by_cases h1 : (4 : Int) ≤ bs.length
   · rw [if_pos h1]
     by_cases h2 : (8 : Int) ≤ ((bs.length - 4 : Nat) : Int)
     · rw [if_pos h2]
       by_cases h3 : (32 : Int) ≤ ((bs.length - 12 : Nat) : Int)
       · rw [if_pos h3]
         by_cases h4 : (16 : Int) ≤ ((bs.length - 44 : Nat) : Int)
         · rw [if_pos h4,if_neg (by intro e;have:=congrArg List.length e;rw [List.length_drop] at this;simp at this;omega)]
           rfl
         · rw [if_neg h4];rfl
       · rw [if_neg h3];rfl
     · rw [if_neg h2];rfl
   · rw [if_neg h1]
end Go.Proofs.YtdlgihbpiakebaaGreat
