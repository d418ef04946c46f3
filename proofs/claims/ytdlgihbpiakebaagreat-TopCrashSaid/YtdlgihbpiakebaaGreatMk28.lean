import Derived.Test.YtdlgihbpiakebaaGreatMk01
import Derived.Test.YtdlgihbpiakebaaGreatMk11
import Derived.Test.YtdlgihbpiakebaaGreatMk16
set_option maxRecDepth 100000
set_option maxHeartbeats 4000000
namespace Go.Proofs.YtdlgihbpiakebaaGreat
open Go
theorem qHP (bs:List UInt8)(n:Nat)(h:bs.length=n)(hn:n≤8):(qAn bs).toNat<256^n:=by
 rw[qFa bs (by omega),←h]
 exact qJV bs
theorem qHQ (v:BitVec 32):(qAn (qAI (v.setWidth 64) 4)).setWidth 32=v:=by
 apply BitVec.eq_of_toNat_eq
 rw[BitVec.toNat_setWidth,qEv _ 4 (by omega),BitVec.toNat_setWidth]
 have:=v.isLt
 omega
theorem qL9 (n:Int)(k:Nat)(hk:k≤7)(h0:0≤n)(h1:n<256^k):((qAn (qAI (BitVec.ofInt 64 n) k)).toNat:Int)=n:=by
 rw[qEv _ k (by omega),BitVec.toNat_ofInt]
 have j:(256:Nat)^k≤256^7:=Nat.pow_le_pow_right (by omega) hk
 have e:(256:Nat)^7=72057594037927936:=by decide
 have f:(256:Int)^k=((256^k:Nat):Int):=by rw[Int.natCast_pow];rfl
 rw[f]at h1
 have c:((n % ((2^64:Nat):Int)).toNat:Int)=n:=by omega
 have h:(n % ((2^64:Nat):Int)).toNat<256^k:=by
  have l:((n % ((2^64:Nat):Int)).toNat:Int)<((256^k:Nat):Int):=by rw[c];exact h1
  omega
 rw[Nat.mod_eq_of_lt h]
 exact c
structure Lf where
 kind:Int
 dirty:Bool
 lba:Int
 ep:BitVec 32
 sl:BitVec 32
 ver:BitVec 64
 tag:qAD
deriving DecidableEq
def qSP (a b:Lf):Bool:=decide (a=b)
def Lf.val (l:Lf):Value:=.agg #[.int .i64 l.kind,.bool l.dirty,.int .i64 l.lba,W l.ep,W l.sl,U l.ver,U l.tag.1,U l.tag.2]
def Lf.zero:Lf:=⟨0,false,0,0#32,0#32,0#64,(0#64,0#64)⟩
def qBR (n:Int):Bool:=decide (0≤n)&&decide (n<32)
def qAM (l:Lf)(s:Int):Bool:=
 (decide (0≤s)&&decide (s<16)) &&
 (if l.kind=0 then decide (l=Lf.zero)
  else if l.kind=2 then qBR l.lba&&decide (l=⟨2,true,l.lba,0#32,0#32,0#64,(0#64,0#64)⟩)
  else if l.kind=1 then qBR l.lba&&(l.sl==BitVec.ofInt 32 s)&&decide (0#32<l.ep)
  else false)
def qEG (b:Bool):BitVec 64:=if b then 1#64 else 0#64
def qBr (l:Lf):List UInt8:=qAI (BitVec.ofInt 64 l.kind) 1++qAI (qEG l.dirty) 1++qAI (BitVec.ofInt 64 l.lba) 2++qAI (l.ep.setWidth 64) 4++qAI l.ver 8++qAJ l.tag
theorem qBi (l:Lf):(qBr l).length=32:=by simp[qBr,qA9,qAs]
def qEH (bs:List UInt8)(s:Int):Lf:=
 ⟨((qAn (bs.take 1)).toNat:Int),qAn ((bs.drop 1).take 1)==1#64,((qAn ((bs.drop 2).take 2)).toNat:Int),(qAn ((bs.drop 4).take 4)).setWidth 32,
  if((qAn (bs.take 1)).toNat:Int)=1 then BitVec.ofInt 32 s else 0#32,qAn ((bs.drop 8).take 8),qAr (bs.drop 16)⟩
def qBO (bs:List UInt8)(s:Int):Option Lf:=if bs.length=32∧qAM (qEH bs s) s=true∧qBr (qEH bs s)=bs then some (qEH bs s) else none
theorem qIP {l:Lf}{s:Int}(h:qAM l s=true):l=Lf.zero∨(l=⟨2,true,l.lba,0#32,0#32,0#64,(0#64,0#64)⟩∧0≤l.lba∧l.lba<32)∨(l.kind=1∧0≤l.lba∧l.lba<32∧l.sl=BitVec.ofInt 32 s∧0#32<l.ep):=by
 unfold qAM at h
 simp only[Bool.and_eq_true]at h
 obtain⟨_,h⟩:=h
 split at h
 · exact .inl (of_decide_eq_true h)
 · split at h
   · simp only[Bool.and_eq_true,qBR,decide_eq_true_eq]at h
     exact .inr (.inl ⟨h.2,h.1.1,h.1.2⟩)
   · split at h
     · simp only[Bool.and_eq_true,qBR,decide_eq_true_eq,beq_iff_eq]at h
       exact .inr (.inr ⟨by assumption,h.1.1.1,h.1.1.2,h.1.2,h.2⟩)
     · cases h
theorem qIQ (l:Lf)(s:Int)(h:qAM l s=true):qEH (qBr l) s=l:=by
 have l1:=qA9 (BitVec.ofInt 64 l.kind) 1
 have l2:=qA9 (qEG l.dirty) 1
 have l3:=qA9 (BitVec.ofInt 64 l.lba) 2
 have q:=qA9 (l.ep.setWidth 64) 4
 have G:=qA9 l.ver 8
 have J:(qBr l).take 1=qAI (BitVec.ofInt 64 l.kind) 1:=by
  unfold qBr
  simp only[List.append_assoc]
  rw[List.take_append_of_le_length (by omega),List.take_of_length_le (by omega)]
 have F:((qBr l).drop 1).take 1=qAI (qEG l.dirty) 1:=by
  unfold qBr
  simp only[List.append_assoc]
  rw[List.drop_append_of_le_length (by omega),List.drop_of_length_le (by omega),List.nil_append,List.take_append_of_le_length (by omega),List.take_of_length_le (by omega)]
 have j:((qBr l).drop 2).take 2=qAI (BitVec.ofInt 64 l.lba) 2:=by
  have:qBr l=(qAI (BitVec.ofInt 64 l.kind) 1++qAI (qEG l.dirty) 1)++(qAI (BitVec.ofInt 64 l.lba) 2++(qAI (l.ep.setWidth 64) 4++qAI l.ver 8++qAJ l.tag)):=by simp[qBr]
  rw[this,List.drop_append_of_le_length (by simp[l1,l2]),List.drop_of_length_le (by simp[l1,l2]),List.nil_append,List.take_append_of_le_length (by omega),List.take_of_length_le (by omega)]
 have N:((qBr l).drop 4).take 4=qAI (l.ep.setWidth 64) 4:=by
  have:qBr l=(qAI (BitVec.ofInt 64 l.kind) 1++qAI (qEG l.dirty) 1++qAI (BitVec.ofInt 64 l.lba) 2)++(qAI (l.ep.setWidth 64) 4++(qAI l.ver 8++qAJ l.tag)):=by simp[qBr]
  rw[this,List.drop_append_of_le_length (by simp[l1,l2,l3]),List.drop_of_length_le (by simp[l1,l2,l3]),List.nil_append,List.take_append_of_le_length (by omega),List.take_of_length_le (by omega)]
 have O:((qBr l).drop 8).take 8=qAI l.ver 8:=by
  have:qBr l=(qAI (BitVec.ofInt 64 l.kind) 1++qAI (qEG l.dirty) 1++qAI (BitVec.ofInt 64 l.lba) 2++qAI (l.ep.setWidth 64) 4)++(qAI l.ver 8++qAJ l.tag):=by simp[qBr]
  rw[this,List.drop_append_of_le_length (by simp[l1,l2,l3,q]),List.drop_of_length_le (by simp[l1,l2,l3,q]),List.nil_append,List.take_append_of_le_length (by omega),List.take_of_length_le (by omega)]
 have V:(qBr l).drop 16=qAJ l.tag:=by
  unfold qBr
  rw[List.drop_append_of_le_length (by simp[l1,l2,l3,q,G]),List.drop_of_length_le (by simp[l1,l2,l3,q,G]),List.nil_append]
 have f:0≤l.kind∧l.kind<256^1∧0≤l.lba∧l.lba<256^2∧(l.sl=if l.kind=1 then BitVec.ofInt 32 s else 0#32):=by
  rcases qIP h with e|⟨e,a,b⟩|⟨e,a,b,c,_⟩
  · rw[e];simp[Lf.zero]
  · have F:=congrArg Lf.kind e
    have j:=congrArg Lf.sl e
    simp only at F j
    refine⟨by omega,by omega,a,by omega,?_⟩
    rw[j,F];rfl
  · refine⟨by omega,by omega,a,by omega,?_⟩
    rw[if_pos e];exact c
 unfold qEH
 rw[J,F,j,N,O,V,qL9 _ 1 (by omega) f.1 f.2.1,qL9 _ 2 (by omega) f.2.2.1 f.2.2.2.1,qHQ,qCR,qEa,←f.2.2.2.2]
 have I:(qAn (qAI (qEG l.dirty) 1)==1#64)=l.dirty:=by cases l.dirty<;>decide
 rw[I]
theorem qKf (l:Lf)(s:Int)(h:qAM l s=true):qBO (qBr l) s=some l:=by
 unfold qBO
 rw[qIQ l s h,qBi,if_pos ⟨rfl,h,rfl⟩]
theorem qEI (bs:List UInt8):qFS bs [1,1,2,4,8,16]=if bs.length=32 then some [bs.take 1,(bs.drop 1).take 1,(bs.drop 2).take 2,(bs.drop 4).take 4,(bs.drop 8).take 8,bs.drop 16] else none:=by
 simp only[qFS,Int.reduceLE,true_and,Int.reduceToNat,List.drop_drop,Nat.reduceAdd,List.length_drop]
 by_cases h:bs.length=32
 · rw[if_pos h,if_pos (by omega),if_pos (by omega),if_pos (by omega),if_pos (by omega),if_pos (by omega),if_pos (by omega),if_pos (List.drop_of_length_le (by omega))]
   simp only[Option.map_some]
   rw[List.take_of_length_le (l:=bs.drop 16) (by rw[List.length_drop];omega)]
 · rw[if_neg h]
   by_cases f:(1:Int)≤bs.length
   · rw[if_pos f]
     by_cases G:(1:Int)≤((bs.length - 1:Nat):Int)
     · rw[if_pos G]
       by_cases F:(2:Int)≤((bs.length - 2:Nat):Int)
       · rw[if_pos F]
         by_cases c:(4:Int)≤((bs.length - 4:Nat):Int)
         · rw[if_pos c]
           by_cases q:(8:Int)≤((bs.length - 8:Nat):Int)
           · rw[if_pos q]
             by_cases j:(16:Int)≤((bs.length - 16:Nat):Int)
             · rw[if_pos j,if_neg (by intro e;have:=congrArg List.length e;rw[List.length_drop]at this;simp at this;omega)]
               rfl
             · rw[if_neg j];rfl
           · rw[if_neg q];rfl
         · rw[if_neg c];rfl
       · rw[if_neg F];rfl
     · rw[if_neg G];rfl
   · rw[if_neg f]
structure Rt where
 count:BitVec 64
 epoch:BitVec 32
 slots:Int
 hash:qAD
deriving DecidableEq
def Rt.val (r:Rt):Value:=.agg #[U r.count,W r.epoch,.int .i64 r.slots,U r.hash.1,U r.hash.2]
def Rt.zero:Rt:=⟨0#64,0#32,0,(0#64,0#64)⟩
def qD9 (n:Int):Bool:=n==4||n==8||n==16
theorem qHc {n:Int}(h:qD9 n=true):n=4∨n=8∨n=16:=by
 unfold qD9 at h
 simp only[Bool.or_eq_true,beq_iff_eq]at h
 rcases h with (h|h)|h
 · exact .inl h
 · exact .inr (.inl h)
 · exact .inr (.inr h)
def qCU (r:Rt):List UInt8:=qAI r.count 8++qAI (r.epoch.setWidth 64) 4++qAI (BitVec.ofInt 64 r.slots) 4++qAJ r.hash
theorem qB6 (r:Rt):(qCU r).length=32:=by simp[qCU,qA9,qAs]
def qCd (bs:List UInt8):Rt:=⟨qAn (bs.take 8),(qAn ((bs.drop 8).take 4)).setWidth 32,((qAn ((bs.drop 12).take 4)).toNat:Int),qAr (bs.drop 16)⟩
theorem qNo (bs:List UInt8)(h:bs.length=4):(qAn bs).toNat<4294967296:=by
 rw[qFa bs (by omega)]
 have:=qJV bs
 rw[h]at this
 exact this
theorem qNp (n:Int)(h0:0≤n)(h1:n<4294967296):((qAn (qAI (BitVec.ofInt 64 n) 4)).toNat:Int)=n:=by
 rw[qEv _ 4 (by omega),BitVec.toNat_ofInt]
 omega
theorem qIR (r:Rt)(h:qD9 r.slots=true):qCd (qCU r)=r:=by
 have hn:0≤r.slots∧r.slots<4294967296:=by rcases qHc h with h|h|h<;>omega
 have l1:=qA9 r.count 8
 have l2:=qA9 (r.epoch.setWidth 64) 4
 have l3:=qA9 (BitVec.ofInt 64 r.slots) 4
 unfold qCd qCU
 have f:(qAI r.count 8++qAI (r.epoch.setWidth 64) 4++qAI (BitVec.ofInt 64 r.slots) 4++qAJ r.hash).take 8=qAI r.count 8:=by
  rw[List.append_assoc,List.append_assoc,List.take_append_of_le_length (by omega),List.take_of_length_le (by omega)]
 have l:((qAI r.count 8++qAI (r.epoch.setWidth 64) 4++qAI (BitVec.ofInt 64 r.slots) 4++qAJ r.hash).drop 8).take 4=qAI (r.epoch.setWidth 64) 4:=by
  rw[List.append_assoc,List.append_assoc,List.drop_append_of_le_length (by omega),List.drop_of_length_le (by omega),List.nil_append,List.take_append_of_le_length (by omega),List.take_of_length_le (by omega)]
 have c:((qAI r.count 8++qAI (r.epoch.setWidth 64) 4++qAI (BitVec.ofInt 64 r.slots) 4++qAJ r.hash).drop 12).take 4=qAI (BitVec.ofInt 64 r.slots) 4:=by
  rw[List.append_assoc,List.drop_append_of_le_length (by simp[qA9]),List.drop_of_length_le (by simp[qA9]),List.nil_append,List.take_append_of_le_length (by omega),List.take_of_length_le (by omega)]
 have j:(qAI r.count 8++qAI (r.epoch.setWidth 64) 4++qAI (BitVec.ofInt 64 r.slots) 4++qAJ r.hash).drop 16=qAJ r.hash:=by
  rw[List.drop_append_of_le_length (by simp[qA9]),List.drop_of_length_le (by simp[qA9]),List.nil_append]
 rw[f,l,c,j,qCR,qHQ,qNp _ hn.1 hn.2,qEa]
def qIS (bs:List UInt8):Option Rt:=if bs.length=32∧qD9 (qCd bs).slots=true then some (qCd bs) else none
theorem qKg (r:Rt)(h:qD9 r.slots=true):qIS (qCU r)=some r:=by
 unfold qIS
 rw[qIR r h,qB6,if_pos ⟨rfl,h⟩]
theorem qEJ (bs:List UInt8):qFS bs [8,4,4,16]=if bs.length=32 then some [bs.take 8,(bs.drop 8).take 4,(bs.drop 12).take 4,bs.drop 16] else none:=by
 simp only[qFS,Int.reduceLE,true_and,Int.reduceToNat,List.drop_drop,Nat.reduceAdd,List.length_drop]
 by_cases h:bs.length=32
 · rw[if_pos h,if_pos (by omega),if_pos (by omega),if_pos (by omega),if_pos (by omega),if_pos (List.drop_of_length_le (by omega))]
   simp only[Option.map_some]
   rw[List.take_of_length_le (l:=bs.drop 16) (by rw[List.length_drop];omega)]
 · rw[if_neg h]
   by_cases f:(8:Int)≤bs.length
   · rw[if_pos f]
     by_cases q:(4:Int)≤((bs.length - 8:Nat):Int)
     · rw[if_pos q]
       by_cases j:(4:Int)≤((bs.length - 12:Nat):Int)
       · rw[if_pos j]
         by_cases c:(16:Int)≤((bs.length - 16:Nat):Int)
         · rw[if_pos c,if_neg (by intro e;have:=congrArg List.length e;rw[List.length_drop]at this;simp at this;omega)]
           rfl
         · rw[if_neg c];rfl
       · rw[if_neg j];rfl
     · rw[if_neg q];rfl
   · rw[if_neg f]
def qFV (n:Nn)(bs:List UInt8)(tag:qAD):List UInt8:=qAI (n.epoch.setWidth 64) 4++qAI n.version 8++bs++qAJ tag
theorem qCt (n:Nn)(bs:List UInt8)(tag:qAD)(h:bs.length=32):(qFV n bs tag).length=60:=by simp[qFV,qA9,qAs,h]
def qRH (bs:List UInt8):Nn:=⟨(qAn (bs.take 4)).setWidth 32,65535#32,qAn ((bs.drop 4).take 8)⟩
def qRI (bs:List UInt8):List UInt8:=(bs.drop 12).take 32
def qQk (bs:List UInt8):qAD:=qAr (bs.drop 44)
theorem qPh (n:Nn)(bs:List UInt8)(tag:qAD)(hs:n.slot=65535#32)(h:bs.length=32):qRH (qFV n bs tag)=n∧qRI (qFV n bs tag)=bs∧qQk (qFV n bs tag)=tag:=by
 have l1:=qA9 (n.epoch.setWidth 64) 4
 have l2:=qA9 n.version 8
 have j:(qFV n bs tag).take 4=qAI (n.epoch.setWidth 64) 4:=by
  unfold qFV
  rw[List.append_assoc,List.append_assoc,List.take_append_of_le_length (by omega),List.take_of_length_le (by omega)]
 have q:((qFV n bs tag).drop 4).take 8=qAI n.version 8:=by
  unfold qFV
  rw[List.append_assoc,List.append_assoc,List.drop_append_of_le_length (by omega),List.drop_of_length_le (by omega),List.nil_append,List.take_append_of_le_length (by omega),List.take_of_length_le (by omega)]
 have f:((qFV n bs tag).drop 12).take 32=bs:=by
  unfold qFV
  rw[List.append_assoc,List.drop_append_of_le_length (by simp[qA9]),List.drop_of_length_le (by simp[qA9]),List.nil_append,List.take_append_of_le_length (by omega),List.take_of_length_le (by omega)]
 have l:(qFV n bs tag).drop 44=qAJ tag:=by
  unfold qFV
  rw[List.drop_append_of_le_length (by simp[qA9,h]),List.drop_of_length_le (by simp[qA9,h]),List.nil_append]
 refine⟨?_,f,?_⟩
 · unfold qRH
   rw[j,q,qHQ,qCR]
   obtain⟨a,b,c⟩:=n
   simp only at hs
   rw[hs]
 · unfold qQk
   rw[l,qEa]
theorem qKh (bs:List UInt8):qFS bs [4,8,32,16]=if bs.length=60 then some [bs.take 4,(bs.drop 4).take 8,(bs.drop 12).take 32,bs.drop 44] else none:=by
 simp only[qFS,Int.reduceLE,true_and,Int.reduceToNat,List.drop_drop,Nat.reduceAdd,List.length_drop]
 by_cases h:bs.length=60
 · rw[if_pos h,if_pos (by omega),if_pos (by omega),if_pos (by omega),if_pos (by omega),if_pos (List.drop_of_length_le (by omega))]
   simp only[Option.map_some]
   rw[List.take_of_length_le (l:=bs.drop 44) (by rw[List.length_drop];omega)]
 · rw[if_neg h]
   by_cases f:(4:Int)≤bs.length
   · rw[if_pos f]
     by_cases q:(8:Int)≤((bs.length - 4:Nat):Int)
     · rw[if_pos q]
       by_cases j:(32:Int)≤((bs.length - 12:Nat):Int)
       · rw[if_pos j]
         by_cases c:(16:Int)≤((bs.length - 44:Nat):Int)
         · rw[if_pos c,if_neg (by intro e;have:=congrArg List.length e;rw[List.length_drop]at this;simp at this;omega)]
           rfl
         · rw[if_neg c];rfl
       · rw[if_neg j];rfl
     · rw[if_neg q];rfl
   · rw[if_neg f]
end Go.Proofs.YtdlgihbpiakebaaGreat
