import Derived.Test.YtdlgihbpiakebaaGreatMk50
set_option maxRecDepth 100000
set_option maxHeartbeats 4000000
namespace Go.Proofs.YtdlgihbpiakebaaGreat
open Go Go.RowKit Tryz

section
variable {x:Wd} {m k:Nat} {boot:BitVec 64} {ls:List Lf}
theorem qOw (z1:x.p.spend.1=true)(z2:(x.areaW1 x.commitA ls).p.spend.1=true)(z3:(x.commit2 ls).p.spend.1=true)(hk:k<100) :
 (x.commit2 ls).sd.snap=qBV (qBV x.sd.snap ((gLeaf x.n x.commitA 0:Nat),(qAe ls).flatten)) ((gNode x.n x.commitA 0:Nat),qBS (x.areaB ls).1) ∧
 (x.commit5 boot k ls).sd.snap=qBV (x.commit2 ls).sd.snap ((gRec x.n (qCY (x.c.value+1#64)):Nat),(x.commit2 ls).logR boot k (x.commitR ls)):=by
 have l:x.commit1 ls=x.areaW2 x.commitA ls:=by unfold Wd.commit1 Wd.areaW;rw[if_pos z1]
 have j:x.commit3 boot k ls=(x.commit2 ls).logW boot k (x.commitR ls):=by unfold Wd.commit3 Wd.logX;rw[if_pos hk]
 have s2:=@qAG x ls
 have f:(x.commit2 ls).sd.snap=qBV (qBV x.sd.snap ((gLeaf x.n x.commitA 0:Nat),(qAe ls).flatten)) ((gNode x.n x.commitA 0:Nat),qBS (x.areaB ls).1):=by
  unfold Wd.commit2
  rw[qFH,l]
  unfold Wd.areaW2
  rw[qFu z2]
  congr 1
  unfold Wd.areaW1
  rw[qFu (x:=x.setL (x.areaB ls).2) z1]
  rfl
 have h:(x.commit5 boot k ls).sd.snap=qBV (x.commit2 ls).sd.snap ((gRec x.n (qCY (x.c.value+1#64)):Nat),(x.commit2 ls).logR boot k (x.commitR ls)):=by
  show(x.commit4 boot k ls).sd.snap=_
  unfold Wd.commit4
  rw[qFH,j]
  unfold Wd.logW
  rw[qFu (x:=(x.commit2 ls).logL boot k (x.commitR ls)) z3]
  show qBV _ ((gRec (x.commit2 ls).n _:Nat),_)=_
  rw[s2.1]
  rfl
 exact⟨f,h⟩
theorem qJw (f:x.fine m)(hm:m≤900000)(z1:x.p.spend.1=true)(z2:(x.areaW1 x.commitA ls).p.spend.1=true)(z3:(x.commit2 ls).p.spend.1=true)(z4:(x.commit3 boot k ls).p.spend.1=true)(z5:(x.commit4 boot k ls).p.spend.1=true)(hnb:x.l.numb)(hl:ls.length=x.n)(hok:qB7 ls)(hk:k<100)(hb:x.c.boots.toNat<2147483648)(hbt:boot=x.c.boots) :
 (x.commit5 boot k ls).holds (x.commit5 boot k ls).sd.snap ls (qAl x.eps)∧(x.commit5 boot k ls).s.waits= []∧(x.commit5 boot k ls).c.value=x.c.value+1#64∧(x.commit5 boot k ls).c.boots=x.c.boots∧(x.commit5 boot k ls).l.sle (x.commit5 boot k ls).l:=by
 have hn:=qAo f.ok.sl
 have G:0<x.n:=by omega
 have e1:x.commit1 ls=x.areaW2 x.commitA ls:=by unfold Wd.commit1 Wd.areaW;rw[if_pos z1]
 have e3:x.commit3 boot k ls=(x.commit2 ls).logW boot k (x.commitR ls):=by unfold Wd.commit3 Wd.logX;rw[if_pos hk]
 have s2:=@qAG x ls
 have hS:x.sd.snap.length=gSize x.n:=Sd.snap_length f.ok.s
 obtain⟨a0,O⟩:=qOw (boot:=boot) z1 z2 z3 hk
 have j:(x.commit5 boot k ls).c=x.c.bump:=by
  unfold Wd.commit5 Wd.bump
  rw[z5]
  show(x.commit4 boot k ls).c.bump=_
  have:(x.commit4 boot k ls).c=x.c:=qAY.2.2.1
  rw[this]
 have l2:(x.commit2 ls).l=(qAX x.l (qAe ls)).2:=by
  show(x.commit1 ls).l=_
  rw[e1]
  rfl
 have l5:(x.commit5 boot k ls).l=(x.commit2 ls).l.sealL (x.commit2 ls).logK ((x.commit2 ls).logN boot k) [] (qCU (x.commitR ls)):=by
  show(x.commit3 boot k ls).l=_
  rw[e3]
  rfl
 have n5:(x.commit5 boot k ls).n=x.n:=(qKL hl G).n
 have Z:(x.commit5 boot k ls).seed=x.seed:=(qKL hl G).seed
 have Y:(x.commit5 boot k ls).eps=x.eps:=(qKL hl G).eps
 have f2:=f.commit2 hl
 have a2:=f.ok.cv
 have hA:x.commitA<2:=qC1 _
 have i1:inB (gSize x.n) ((gLeaf x.n x.commitA 0:Nat),(qAe ls).flatten):=qEQ hA hl G
 have i2:inB (gSize x.n) ((gNode x.n x.commitA 0:Nat),qBS (x.areaB ls).1):=qER hA hl G
 have i3:inB (gSize x.n) ((gRec x.n (qCY (x.c.value+1#64)):Nat),(x.commit2 ls).logR boot k (x.commitR ls)):=by
  have:=qI9 (x.commit2 ls) boot k (x.commitR ls) (by rw[s2.1];exact G)
  rw[s2.1]at this
  exact this
 have I:(x.commit2 ls).sd.snap.length=gSize x.n:=by have:=Sd.snap_length f2.ok.s;rw[s2.1]at this;exact this
 refine⟨⟨by rw[n5];exact hl,hok,fun h=>?_,fun _=>?_⟩,?_,by rw[j];rfl,by rw[j];rfl,Lk.sle.refl _⟩
 · rw[j]at h
   have h':=congrArg BitVec.toNat h
   have J:(x.c.value+1#64).toNat=0:=h'
   rw[BitVec.toNat_add]at J
   have:(1#64).toNat=1:=rfl
   rw[this,Nat.mod_eq_of_lt (by omega)]at J
   omega
 · have V:(x.commit5 boot k ls).c.value=x.c.value+1#64:=by rw[j];rfl
   rw[V,n5,Y,Z]
   have q:(x.commit2 ls).logN boot k=qOG (qAl x.eps) 65535 boot (k+1):=by unfold Wd.logN;rw[s2.2.1]
   have hK:(x.commit2 ls).logK=qFd x.seed x.eps (qAl x.eps):=by unfold Wd.logK;rw[s2.2.2.2,s2.2.1]
   have F:((x.commit2 ls).logS boot k (x.commitR ls)).1.length=32:=by
    unfold Wd.logS
    rw[Lk.sealP_length,qB6]
   refine⟨(x.commit2 ls).logN boot k,((x.commit2 ls).logS boot k (x.commitR ls)).1,((x.commit2 ls).logS boot k (x.commitR ls)).2,qAl x.eps,x.areaTop ls,?_,F,?_,?_,?_,?_,?_,?_⟩
   · unfold qRq
     rw[O]
     have a1:((x.commit2 ls).logR boot k (x.commitR ls)).length=60:=qCt _ _ _ F
     rw[qLv (x:=((gRec x.n (qCY (x.c.value+1#64)):Nat),(x.commit2 ls).logR boot k (x.commitR ls))) (by rw[I];exact i3) (by rw[Int.toNat_natCast];omega) (by rw[Int.toNat_natCast];show _≤_+((x.commit2 ls).logR boot k (x.commitR ls)).length;omega),Int.toNat_natCast,Nat.sub_self,List.drop_zero,List.take_of_length_le (Nat.le_of_eq a1)]
     rfl
   · rw[q];rfl
   · rw[q];exact⟨rfl,qKK f.ok.ep⟩
   · rw[q,j]
     show(boot<<<32+BitVec.ofInt 64 ((k+1:Nat):Int))>>>32=x.c.boots
     rw[hbt]
     exact qQ1 _ _ hb (by omega)
   · rw[l5,q,hK]
     have:=Lk.open_seal ((qRn hl G).nb hnb) (Lk.few_mono f2.few (by omega)) (qFd x.seed x.eps (qAl x.eps)) (qOG (qAl x.eps) 65535 boot (k+1)) [] (qCU (x.commitR ls))
     unfold Wd.logS
     rw[q,hK]
     exact this
   · rw[O,a0]
     exact qKN hn hA hS hl _ _ _ (qC1 _) i2 i3 i1
   · intro l' N
     have h1:(qAX x.l (qAe ls)).2.sle l':=by
      rw[l5,l2]at N
      exact(Lk.sle_seal _ _ _ _ _).trans N
     rw[qKM h1]
     rfl
 · show(x.commit4 boot k ls).s.waits= []
   unfold Wd.commit4
   exact qIp z4
end
def qRt (o k:Nat)(y:Wr):Prop:=o+k≤y.1.toNat∨y.1.toNat+y.2.length≤o
def qEq (ls:List Lf)(s:Nat):Lf:=ls[s]?.getD Lf.zero
structure qMN (n:Nat)(ls:List Lf)(p:Nat)(y:Wr):Prop where
 dat:∀s,s<n→(qEq ls s).kind≠0→qRt (gData n s) 32 y
 row:qRt (gLeaf n p 0) (n*32) y
 rcd:qRt (gRec n p) 60 y
structure qDh (n:Nat)(ls:List Lf)(p:Nat)(b b':List UInt8):Prop where
 len:b'.length=b.length
 dat:∀s,s<n→(qEq ls s).kind≠0→(b'.drop (gData n s)).take 32=(b.drop (gData n s)).take 32
 row:qHx n b' p=qHx n b p
 rcd:(b'.drop (gRec n p)).take 60=(b.drop (gRec n p)).take 60
section
variable {n p:Nat} {ls:List Lf}
theorem qDh.refl (b:List UInt8):qDh n ls p b b:=⟨rfl,fun _ _ _=>rfl,rfl,rfl⟩
theorem qDh.trans {b b' b'':List UInt8}(h:qDh n ls p b b')(k:qDh n ls p b' b''):qDh n ls p b b'':=
 ⟨k.len.trans h.len,fun s c f=>(k.dat s c f).trans (h.dat s c f),k.row.trans h.row,k.rcd.trans h.rcd⟩
theorem qMN.alike {y:Wr}(h:qMN n ls p y){b:List UInt8}(hi:inB b.length y):qDh n ls p b (qBV b y):=by
 refine⟨qBW _ _ hi,fun s f j=>qF2 hi (h.dat s f j),?_,qF2 hi h.rcd⟩
 unfold qHx
 apply List.map_congr_left
 intro i c
 have:=List.mem_range.1 c
 refine qF2 hi ?_
 have l:=h.row
 unfold qRt at l
 have q:gLeaf n p i=gLeaf n p 0+i*32:=by unfold gLeaf;omega
 rw[q]
 omega
theorem qJx:∀(l:List Wr) (b:List UInt8),(∀y∈l,inB b.length y)→(∀y∈l,qMN n ls p y)→qDh n ls p b (qB5 b l)
 | [],b,_,_=>qDh.refl b
 | y::l,b,h,k=>by
  have f:=(k y (by simp)).alike (h y (by simp))
  refine f.trans ?_
  show qDh n ls p (qBV b y) (qB5 (qBV b y) l)
  exact qJx l _ (fun z c=>by rw[f.len];exact h z (by simp[c])) (fun z c=>k z (by simp[c]))
theorem qLz (b:List UInt8)(l:List Wr)(is:Nat→Bool)(h:∀y∈l,inB b.length y)(k:∀y∈l,qMN n ls p y):∀j,j≤l.length→qDh n ls p b (qBy b l is j)
 | 0,_=>qDh.refl b
 | j+1,hj=>by
  have c:=qLz b l is h k j (by omega)
  unfold qBy
  split
  · have q:l[j]? = some l[j]:=List.getElem?_eq_getElem (by omega)
    rw[q]
    have f:=List.getElem_mem (l:=l) (n:=j) (by omega)
    exact c.trans ((k _ f).alike (by rw[c.len];exact h _ f))
  · exact c
end
def Wd.valO (x:Wd)(out:List UInt8)(l:Lf):Option (List UInt8):=if l.kind=2 then some (List.replicate 32 0) else if x.eps.contains l.ep then x.l.openP (qFd x.seed x.eps l.ep) l.nn (qCI l.lba) out l.tag else none
theorem qOx (b:Bx)(s:Nat):b.valD s=b.x.valO (b.dataAt s) (b.leaf s):=rfl
theorem qRu {x y:Wd}{out:List UInt8}{l:Lf}{v:List UInt8}(h:x.valO out l=some v)(hse:y.seed=x.seed)(he:x.eps.contains l.ep=true→y.eps.contains l.ep=true)(hle:x.l.le y.l):y.valO out l=some v:=by
 unfold Wd.valO at h ⊢
 split
 · rename_i f;rw[if_pos f]at h;exact h
 · rename_i f
   rw[if_neg f]at h
   split at h
   · rename_i c
     rw[if_pos (he c)]
     have j:qFd y.seed y.eps l.ep=qFd x.seed x.eps l.ep:=by
      unfold qFd
      rw[if_pos (he c),if_pos c,hse]
     rw[j]
     exact hle _ _ _ _ _ _ h
   · cases h
structure Las (x:Wd)(ls:List Lf)(L:Nat→List UInt8):Prop where
 hold:∃e,x.holds x.s.lasts ls e
 away:∀y∈x.s.waits,qMN x.n ls (qCY x.c.value) y
 val:∀s,(qEq ls s).kind≠0→x.valO ((x.s.lasts.drop (gData x.n s)).take 32) (qEq ls s)=some (L (qEq ls s).lba.toNat)
 uniq:∀s t,(qEq ls s).kind≠0→(qEq ls t).kind≠0→(qEq ls s).lba=(qEq ls t).lba→s=t
 dsk:∀i:Nat,i<32→(∀s,(qEq ls s).kind≠0→(qEq ls s).lba=(i:Int)→(qEq ls s).dirty=false)→x.d.lasts[i]?.getD []=L i∧∀y∈x.d.waits,y.1≠(i:Int)
 nb:x.l.numb
section
variable {x y:Wd} {ls:List Lf} {L:Nat→List UInt8} {m:Nat}
theorem qRv {s:Nat}(h:(qEq ls s).kind≠0):s<ls.length:=by
 unfold qEq at h
 cases hs:ls[s]? with
 | none=>rw[hs]at h;exact absurd rfl h
 | some y=>exact(List.getElem?_eq_some_iff.1 hs).1
theorem Las.go (h:Las x ls L)(hn:y.n=x.n)(hse:y.seed=x.seed)(he:∀e,x.eps.contains e=true→y.eps.contains e=true)(hv:y.c.value=x.c.value)(ha:y.c.at_=x.c.at_)(hle:x.l.le y.l)(hsl:x.l.sle y.l)(hnb:y.l.numb)
 (hb:qDh x.n ls (qCY x.c.value) x.s.lasts y.s.lasts) (hw:∀w∈y.s.waits,qMN x.n ls (qCY x.c.value) w)
 (hd:∀i:Nat,i<32→(∀s,(qEq ls s).kind≠0→(qEq ls s).lba=(i:Int)→(qEq ls s).dirty=false)→y.d.lasts[i]?.getD []=x.d.lasts[i]?.getD []∧∀w∈y.d.waits,w.1≠(i:Int)):Las y ls L:=by
 obtain⟨e,q⟩:=h.hold
 have a1:=q.ln
 refine⟨⟨e,?_⟩,by rw[hn,hv];exact hw,fun s j=>?_,h.uniq,fun i F G=>?_,hnb⟩
 · have f:=q.as (y:=y) hn hse (he e) hv ha hle hsl
   refine⟨f.ln,f.ok,f.z,fun O=>?_⟩
   obtain⟨nn,out,tag,ep,top,N,Z,k3,Y,k5,I,k7,J⟩:=f.rc O
   refine⟨nn,out,tag,ep,top,?_,Z,k3,Y,k5,I,?_,J⟩
   · rw[←N]
     unfold qRq
     rw[hn,hv]
     exact hb.rcd
   · rw[←k7,hn,hv]
     exact hb.row
 · have a0:=qRv j
   rw[hn,hb.dat s (by omega) j]
   exact qRu (h.val s j) hse (he _) hle
 · obtain⟨d1,V⟩:=hd i F G
   exact⟨d1.trans (h.dsk i F G).1,V⟩
theorem Las.same (h:Las x ls L)(hn:y.n=x.n)(hse:y.seed=x.seed)(he:y.eps=x.eps)(hv:y.c.value=x.c.value)(ha:y.c.at_=x.c.at_)(hle:x.l.le y.l)(hsl:x.l.sle y.l)(hnb:y.l.numb)(hs:y.s.lasts=x.s.lasts)(hw:∀w∈y.s.waits,qMN x.n ls (qCY x.c.value) w)(hd:y.d.lasts=x.d.lasts)(hdw:y.d.waits=x.d.waits):Las y ls L:=
 h.go hn hse (fun e=>by rw[he];exact id) hv ha hle hsl hnb (by rw[hs];exact qDh.refl _) hw (fun i f j=>⟨by rw[hd],by rw[hdw];exact(h.dsk i f j).2⟩)
theorem Las.setL (h:Las x ls L){l:Lk}(hle:x.l.le l)(hsl:x.l.sle l)(hnb:l.numb):Las (x.setL l) ls L:=
 h.same rfl rfl rfl rfl rfl hle hsl hnb rfl h.away rfl rfl
theorem Las.sWrite (h:Las x ls L){w:Wr}(hw:qMN x.n ls (qCY x.c.value) w):Las (x.sWrite w) ls L:=by
 refine h.same rfl rfl rfl rfl rfl (Lk.le.refl _) (Lk.sle.refl _) h.nb ?_ ?_ rfl rfl
 · show(x.sd.wrote x.p.spend.1 x.p.spend.2 w).lasts=_
   unfold Sd.wrote
   split<;>rfl
 · intro z j
   have f:z∈(x.sd.wrote x.p.spend.1 x.p.spend.2 w).waits:=j
   unfold Sd.wrote at f
   split at f
   · have l:z∈x.s.waits++ [w]:=f
     rcases List.mem_append.1 l with h3|h3
     · exact h.away z h3
     · rw[List.mem_singleton.1 h3];exact hw
   · exact h.away z f
theorem Las.sBarrier (h:Las x ls L)(f:x.fine m):Las x.sBarrier ls L:=by
 have c:∀y∈x.s.waits,inB x.s.lasts.length y:=fun y l=>by have:=f.ok.s.fit y l;rw[show x.s.lasts.length=gSize x.n from f.ok.s.len];exact this
 refine h.go rfl rfl (fun _=>id) rfl rfl (Lk.le.refl _) (Lk.sle.refl _) h.nb ?_ ?_ (fun i F G=>⟨rfl,(h.dsk i F G).2⟩)
 · show qDh x.n ls _ x.s.lasts (x.sd.barred x.p.spend.1 x.p.spend.2).lasts
   unfold Sd.barred
   split
   · exact qJx x.s.waits x.s.lasts c h.away
   · exact qDh.refl _
 · intro z q
   have j:z∈(x.sd.barred x.p.spend.1 x.p.spend.2).waits:=q
   unfold Sd.barred at j
   split at j
   · cases j
   · exact h.away z j
theorem Las.bump0 (h:Las x ls L)(hs:x.p.spend.1=false):Las x.bump ls L:=by
 refine h.same rfl rfl rfl ?_ ?_ (Lk.le.refl _) (Lk.sle.refl _) h.nb rfl h.away rfl rfl
 · show(if x.p.spend.1 then x.c.bump else x.c).value=_;rw[hs];rfl
 · show(if x.p.spend.1 then x.c.bump else x.c).at_=_;rw[hs];rfl
theorem Las.boot (h:Las x ls L):Las x.boot ls L:=by
 refine h.same rfl rfl rfl ?_ ?_ (Lk.le.refl _) (Lk.sle.refl _) h.nb rfl h.away rfl rfl
 · show(if x.p.spend.1 then x.c.boot else x.c).value=_;split<;>rfl
 · show(if x.p.spend.1 then x.c.boot else x.c).at_=_;split<;>rfl
theorem Las.dWrite (h:Las x ls L){w:Wr}{s:Nat}(hk:(qEq ls s).kind≠0)(hd:(qEq ls s).dirty=true)(hw:(qEq ls s).lba=w.1):Las (x.dWrite w) ls L:=by
 refine h.go rfl rfl (fun _=>id) rfl rfl (Lk.le.refl _) (Lk.sle.refl _) h.nb (qDh.refl _) h.away (fun i j f=>⟨?_,?_⟩)
 · show(x.dk.wrote x.p.spend.1 x.p.spend.2 w).lasts[i]?.getD []=_
   unfold Dk.wrote
   split<;>rfl
 · intro z l
   have c:z∈(x.dk.wrote x.p.spend.1 x.p.spend.2 w).waits:=l
   unfold Dk.wrote at c
   split at c
   · have q:z∈x.d.waits++ [w]:=c
     rcases List.mem_append.1 q with h3|h3
     · exact(h.dsk i j f).2 z h3
     · rw[List.mem_singleton.1 h3]
       intro e
       have:=f s hk (hw.trans e)
       rw[hd]at this
       cases this
   · exact(h.dsk i j f).2 z c
theorem qLA {i:Nat}(b:List (List UInt8))(l:List Wr)(is:Nat→Bool)(hf:∀y∈l,inD y)(h:∀y∈l,y.1≠(i:Int)):∀k,k≤l.length→(qF3 b l is k)[i]?.getD []=b[i]?.getD []
 | 0,_=>rfl
 | k+1,hk=>by
  have ih:=qLA b l is hf h k (by omega)
  unfold qF3
  split
  · have f:l[k]? = some l[k]:=List.getElem?_eq_getElem (by omega)
    have c:=List.getElem_mem (l:=l) (n:=k) (by omega)
    have j:=h _ c
    have q:=(hf _ c).1
    rw[f]
    simp only[Option.getD_some]
    rw[List.getElem?_set_ne (by omega)]
    exact ih
  · exact ih
theorem Las.settle (h:Las x ls L)(f:x.fine m)(is:Nat→Bool):∀i:Nat,i<32→(∀s,(qEq ls s).kind≠0→(qEq ls s).lba=(i:Int)→(qEq ls s).dirty=false)→(qF3 x.d.lasts x.d.waits is x.d.waits.length)[i]?.getD []=x.d.lasts[i]?.getD []:=fun i c j =>
 qLA _ _ _ f.ok.d.fit (h.dsk i c j).2 _ qle
theorem Las.dBarrier (h:Las x ls L)(f:x.fine m):Las x.dBarrier ls L:=by
 refine h.go rfl rfl (fun _=>id) rfl rfl (Lk.le.refl _) (Lk.sle.refl _) h.nb (qDh.refl _) h.away (fun i c j=>?_)
 show(x.dk.barred x.p.spend.1 x.p.spend.2).lasts[i]?.getD []=_∧∀w∈(x.dk.barred x.p.spend.1 x.p.spend.2).waits,_
 unfold Dk.barred
 split
 · exact⟨h.settle f _ i c j,fun w l=>by cases l⟩
 · exact⟨rfl,(h.dsk i c j).2⟩
theorem Las.kAdd (h:Las x ls L):Las x.kAdd ls L:=by
 refine h.go rfl rfl (fun e c=>?_) rfl rfl (Lk.le.refl _) (Lk.sle.refl _) h.nb (qDh.refl _) h.away (fun i f j=>⟨rfl,(h.dsk i f j).2⟩)
 show(qPc x.p.spend.1 x.eps).contains e=true
 unfold qPc
 split
 · rw[List.contains_iff_mem]at c ⊢
   exact List.mem_append_left _ c
 · exact c
theorem Las.crash (h:Las x ls L)(f:x.fine m)(ks:List Bool):Las (x.crash ks) ls L:=by
 have c:∀y∈x.s.waits,inB x.s.lasts.length y:=fun y l=>by have:=f.ok.s.fit y l;rw[show x.s.lasts.length=gSize x.n from f.ok.s.len];exact this
 refine h.go rfl rfl (fun _=>id) rfl rfl (Lk.le.refl _) (Lk.sle.refl _) h.nb ?_ (fun w j=>by cases j) (fun i q F=>⟨?_,fun w j=>by cases j⟩)
 · exact qLz x.s.lasts x.s.waits (isK ks) c h.away _ qle
 · exact h.settle f (isK ks) i q F
end
structure Hw (b:Bx)(B:Nat→List UInt8):Prop where
 bad:b.c.bad=false
 nb:b.x.l.numb
 val:∀s,(b.leaf s).kind≠0→b.valD s=some (B (b.leaf s).lba.toNat)
 uniq:∀s t,(b.leaf s).kind≠0→(b.leaf t).kind≠0→(b.leaf s).lba=(b.leaf t).lba→s=t
 dsk:∀i:Nat,i<32→(∀s,(b.leaf s).kind≠0→(b.leaf s).lba=(i:Int)→(b.leaf s).dirty=false)→b.x.dk.read i=B i
def Bx.ez1 (b:Bx):Bx:=b.setX ((b.x.setP Pw.new).dRefuse false)
structure qCX (b:Bx)(B L:Nat→List UInt8):Prop where
 w:Hw b B
 dw:b.x.p.gone=false→b.x.d.waits= []
 las:Las b.x b.c.was L
 bt:b.boot=b.x.c.boots
def Stp (v:BitVec 64)(L:Nat→List UInt8)(v':BitVec 64)(L' B:Nat→List UInt8):Prop:=(v'=v∧L'=L)∨(v.toNat<v'.toNat∧L'=B)
theorem Stp.trans {v v' v'':BitVec 64}{L L' L'' B:Nat→List UInt8}(h:Stp v L v' L' B)(k:Stp v' L' v'' L'' B):Stp v L v'' L'' B:=by
 rcases k with ⟨k1,k2⟩|⟨k1,k2⟩
 · rw[k1,k2];exact h
 · refine .inr ⟨?_,k2⟩
   rcases h with ⟨h1,_⟩|⟨h1,_⟩
   · rw[←h1];exact k1
   · omega
section
variable {b b':Bx} {B L:Nat→List UInt8} {m:Nat}
theorem Hw.hon (H:Hw b B):Hon b.ez1 B:=⟨⟨rfl,rfl⟩,rfl,H.bad,H.nb,H.val,H.uniq,H.dsk⟩
theorem Hw.go (H:Hw b B)(hn:b'.x.n=b.x.n)(hse:b'.x.seed=b.x.seed)(he:b'.x.eps=b.x.eps)(hle:b.x.l.le b'.x.l)(hnb:b'.x.l.numb)(hdat:∀s,s<b.c.now.length→b'.x.dat s=b.x.dat s)(hr:∀i:Nat,i<32→b'.x.dk.read i=b.x.dk.read i∨b'.x.dk.read i=B i)(hnow:b'.c.now=b.c.now)(hbad:b'.c.bad=b.c.bad):Hw b' B:=by
 have hl:=qDg hnow
 refine⟨by rw[hbad];exact H.bad,hnb,fun s F=>?_,fun s t q j f=>?_,fun i G h=>?_⟩
 · rw[hl]at F ⊢
   exact qOp hn hse he hle (hdat s (qDf F)) (hl s) (H.val s F)
 · rw[hl s]at q f
   rw[hl t]at j f
   exact H.uniq s t q j f
 · have j:b.x.dk.read i=B i:=H.dsk i G (fun s q j=>by
    have:=h s (by rw[hl];exact q) (by rw[hl];exact j)
    rw[hl]at this
    exact this)
   rcases hr i G with f|f
   · exact f.trans j
   · exact f
theorem Hw.commit (H:Hw b B)(g:b.good m):Hw b.commit.2 B:=by
 have h:0<b.x.n:=by have:=qAo g.f.x.ok.sl;omega
 have c:=qGE (x:=b.x) (ls:=b.c.now) (boot:=b.boot) (k:=b.k) g.f.nl h
 exact H.go c.n c.seed c.eps c.le (c.nb H.nb) (fun s j=>c.dat m g.f.x s (by rw[←g.f.nl];exact j)) (fun i _=>.inl (qOq c.d i)) (qBn b).1 (qBn b).2.2.1
theorem Hw.drops (H:Hw b B)(s:Nat)(hr:(b.leaf s).kind≠0→b.x.dk.read (b.leaf s).lba.toNat=B (b.leaf s).lba.toNat):Hw (b.drops s) B:=by
 have h:=H.hon.drops s hr
 exact⟨h.bad,h.nb,h.val,h.uniq,h.dsk⟩
theorem qOy (v:BitVec 64):qCY (v+1#64)≠qCY v:=by
 unfold qCY
 rw[BitVec.toNat_add]
 have c:(1#64).toNat=1:=rfl
 have f:(2:Nat)^64=18446744073709551616:=by decide
 rw[c,f]
 omega
theorem qJy {n p q:Nat}{ls:List Lf}(hp:p<2)(hq:q<2)(hpq:q≠p){y:Wr}(h1:gLeaf n q 0≤y.1.toNat)(h2:y.1.toNat+y.2.length≤gLeaf n q 0+n*64):qMN n ls p y:=by
 have e:(p=0∧q=1)∨(p=1∧q=0):=by omega
 refine⟨fun s c _=>?_,?_,?_⟩<;>unfold qRt<;>(try unfold gData)<;>(try unfold gRec)<;>unfold gLeaf at* <;> rcases e with ⟨rfl,rfl⟩|⟨rfl,rfl⟩<;>omega
theorem qQ4 {n p q:Nat}{ls:List Lf}(hp:p<2)(hq:q<2)(hpq:q≠p){y:Wr}(h1:y.1.toNat=gRec n q)(h2:y.2.length=60):qMN n ls p y:=by
 have e:(p=0∧q=1)∨(p=1∧q=0):=by omega
 refine⟨fun s c _=>?_,?_,?_⟩<;>unfold qRt<;>rw[h1,h2]<;>unfold gRec<;>(try unfold gData)<;>(try unfold gLeaf)<;>rcases e with ⟨rfl,rfl⟩|⟨rfl,rfl⟩<;>omega
theorem qMH {x:Wd}{ls now:List Lf}{boot:BitVec 64}{k:Nat}(h:Las x ls L)(f:x.fine m)(hl:now.length=x.n) :
 Las (x.commit1 now) ls L∧Las (x.commit2 now) ls L∧Las (x.commit3 boot k now) ls L∧Las (x.commit4 boot k now) ls L:=by
 have Z:0<x.n:=by have:=qAo f.ok.sl;omega
 have hp:=qC1 x.c.value
 have F:=qC1 (x.c.value+1#64)
 have j:=qOy x.c.value
 have J:(qAe now).flatten.length=x.n*32:=by rw[qDb];omega
 have G:(qBS (x.areaB now).1).length=2*x.n*16:=by rw[qDc,qFD,hl]
 have s1:Las (x.setL (x.areaB now).2) ls L:=h.setL (qDU _ _ _) (qJs _ _) (qCH h.nb _ _)
 have O:Las (x.areaW1 x.commitA now) ls L:=s1.sWrite (qJy (q:=x.commitA) hp F j (by show _≤(((gLeaf x.n x.commitA 0:Nat):Int)).toNat;rw[Int.toNat_natCast];exact Nat.le_refl _) (by show(((gLeaf x.n x.commitA 0:Nat):Int)).toNat+(qAe now).flatten.length≤gLeaf x.n x.commitA 0+x.n*64;rw[Int.toNat_natCast,J];omega))
 have Y:Las (x.areaW2 x.commitA now) ls L:=O.sWrite (qJy (q:=x.commitA) hp F j (by show gLeaf x.n x.commitA 0≤(((gNode x.n x.commitA 0:Nat):Int)).toNat;rw[Int.toNat_natCast];unfold gLeaf gNode;omega) (by show(((gNode x.n x.commitA 0:Nat):Int)).toNat+(qBS (x.areaB now).1).length≤gLeaf x.n x.commitA 0+x.n*64;rw[Int.toNat_natCast,G];unfold gLeaf gNode;omega))
 have l1:Las (x.commit1 now) ls L:=by
  unfold Wd.commit1 Wd.areaW
  split
  · exact Y
  · exact O
 have l2:Las (x.commit2 now) ls L:=l1.sBarrier (f.commit1 hl)
 have V:=@qAG x now
 have l3:Las (x.commit3 boot k now) ls L:=by
  unfold Wd.commit3 Wd.logX
  split
  · have l:((x.commit2 now).logS boot k (x.commitR now)).1.length=32:=by
     unfold Wd.logS
     rw[Lk.sealP_length,qB6]
    have N:((x.commit2 now).logR boot k (x.commitR now)).length=60:=qCt _ _ _ l
    have I:Las ((x.commit2 now).logL boot k (x.commitR now)) ls L:=l2.setL (Lk.le_seal _ _ _ _ _) (Lk.sle_seal _ _ _ _ _) (Lk.numb_seal l2.nb _ _ _ _)
    refine Las.sWrite (x:=(x.commit2 now).logL boot k (x.commitR now)) I ?_
    show qMN (x.commit2 now).n ls (qCY (x.commit2 now).c.value) _
    rw[V.1,V.2.2.1]
    refine qQ4 hp F j ?_ N
    show(((gRec x.n (qCY (x.commitR now).count):Nat):Int)).toNat=_
    rw[Int.toNat_natCast]
    rfl
  · exact l2
 exact⟨l1,l2,l3,l3.sBarrier (f.commit3 hl)⟩
theorem qDJ {p:Pw}(h:p.spend.1=false):p.spend.2.gone=true:=by
 unfold Pw.spend at *
 split at h
 · rename_i c
   rw[if_pos c]
   exact c
 · rename_i c
   rw[if_neg c]
   split at h
   · rename_i f
     rw[if_pos f]
   · cases h
theorem qCw (Lv:qCX b B L)(g:b.good m)(hm:m≤900000)(hg:b.x.p.gone=false) :
 ∃L',Stp b.x.c.value L b.commit.2.x.c.value L' B∧qCX b.commit.2 B L'∧(b.commit.1=0∨b.commit.1=6∨b.commit.1=7)∧(b.commit.1=0→L'=B∧b.commit.2.x.holds b.commit.2.x.s.lasts b.c.now (qAl b.commit.2.x.eps)):=by
 have Z:0<b.x.n:=by have:=qAo g.f.x.ok.sl;omega
 have J:=Lv.dw hg
 have W:=Lv.w.commit g
 have cm:=qGE (x:=b.x) (ls:=b.c.now) (boot:=b.boot) (k:=b.k) g.f.nl Z
 obtain⟨l1,l2,l3,l4⟩:=qMH (boot:=b.boot) (k:=b.k) Lv.las g.f.x g.f.nl
 have c3:(b.x.commit3 b.boot b.k b.c.now).c=b.x.c:=qAY.2.2.1
 have fail:∀(e:Int) (x':Wd) (k':Nat),b.x.commit b.boot b.k b.c.now=(e,x',k')→(e=6∨e=7)→Las x' b.c.was L→x'.c=b.x.c →
  ∃L',Stp b.x.c.value L b.commit.2.x.c.value L' B∧qCX b.commit.2 B L'∧(b.commit.1=0∨b.commit.1=6∨b.commit.1=7)∧(b.commit.1=0→L'=B∧b.commit.2.x.holds b.commit.2.x.s.lasts b.c.now (qAl b.commit.2.x.eps)):=by
  intro e x' k' F a2 hL O
  have N:x'.d=b.x.d:=by have:=cm.d;rw[F]at this;exact this
  have hb:b.commit=(e,⟨x',b.boot,k',b.c⟩):=by
   unfold Bx.commit
   rw[F]
   show(e,(⟨x',b.boot,k',if e=0 then { b.c with was:=b.c.now } else b.c⟩:Bx))=_
   rw[if_neg (by omega)]
  rw[hb]at W ⊢
  exact⟨L,.inl ⟨by show x'.c.value=_;rw[O],rfl⟩,⟨W,fun _=>by show x'.d.waits= [];rw[N];exact J,hL,by show b.boot=x'.c.boots;rw[O];exact Lv.bt⟩,.inr a2,fun h=>by have h':e=0:=h;omega⟩
 have j:b.x.commit b.boot b.k b.c.now=b.x.commit b.boot b.k b.c.now:=rfl
 conv at j=>rhs;unfold Wd.commit
 split at j
 · exact fail _ _ _ j (.inr rfl) l1 qCE.2.2.1
 rename_i a1
 split at j
 · exact fail _ _ _ j (.inr rfl) l2 qAG.2.2.1
 split at j
 · rename_i F
   refine fail _ _ _ j ?_ l3 c3
   unfold Wd.logE at F ⊢
   split
   · rename_i Y
     rw[if_pos Y]at F
     split
     · rename_i hs;rw[if_pos hs]at F;exact absurd rfl F
     · exact .inr rfl
   · exact .inl rfl
 rename_i F
 split at j
 · exact fail _ _ _ j (.inr rfl) l4 c3
 rename_i z4
 split at j
 · rename_i V
   refine fail _ _ _ j (.inr rfl) (l4.bump0 V) ?_
   show(if(b.x.commit4 b.boot b.k b.c.now).p.spend.1 then(b.x.commit4 b.boot b.k b.c.now).c.bump else(b.x.commit4 b.boot b.k b.c.now).c)=_
   rw[V]
   exact c3
 rename_i V
 have G:(b.x.commit2 b.c.now).logE b.k=0:=by omega
 have Y:b.k<100:=by
  unfold Wd.logE at G
  split at G
  · assumption
  · cases G
 have z3:(b.x.commit2 b.c.now).p.spend.1=true:=by
  unfold Wd.logE at G
  rw[if_pos Y]at G
  split at G
  · assumption
  · cases G
 have q:(b.x.p.spend.1&&(b.x.areaW1 b.x.commitA b.c.now).p.spend.1)=true:=by
  have:b.x.areaOk b.x.commitA b.c.now=true:=by simpa using a1
  exact this
 rw[Bool.and_eq_true]at q
 obtain⟨q1,q2,q3,q4,_⟩:=qJw (boot:=b.boot) (k:=b.k) g.f.x hm q.1 q.2 z3 (by simpa using z4) (by simpa using V) Lv.w.nb g.f.nl g.f.nok Y (by have:=g.f.x.ok.cb;omega) Lv.bt
 have hb:b.commit=(0,⟨b.x.commit5 b.boot b.k b.c.now,b.boot,qIt b.k,{ b.c with was:=b.c.now }⟩):=by
  unfold Bx.commit
  rw[j]
  rfl
 have N:(b.x.commit5 b.boot b.k b.c.now).d=b.x.d:=(qKL (x:=b.x) (ls:=b.c.now) (boot:=b.boot) (k:=b.k) g.f.nl Z).d
 have a0:(b.x.commit5 b.boot b.k b.c.now).eps=b.x.eps:=(qKL (x:=b.x) (ls:=b.c.now) (boot:=b.boot) (k:=b.k) g.f.nl Z).eps
 have I:(b.x.commit5 b.boot b.k b.c.now).sd.snap=(b.x.commit5 b.boot b.k b.c.now).s.lasts:=by
  show qB5 (b.x.commit5 b.boot b.k b.c.now).s.lasts (b.x.commit5 b.boot b.k b.c.now).s.waits=_
  rw[q2]
  rfl
 rw[hb]at W ⊢
 have a3:=g.f.x.ok.cv
 refine⟨B,.inr ⟨?_,rfl⟩,⟨W,fun _=>by show(b.x.commit5 b.boot b.k b.c.now).d.waits= [];rw[N];exact J,⟨⟨qAl b.x.eps,by rw[←I];exact q1⟩,fun y hy=>?_,fun s hs=>?_,W.uniq,fun i hi O=>?_,W.nb⟩,by show b.boot=(b.x.commit5 b.boot b.k b.c.now).c.boots;rw[q4];exact Lv.bt⟩,.inl rfl,fun _=>⟨rfl,?_⟩⟩
 · show _<(b.x.commit5 b.boot b.k b.c.now).c.value.toNat
   rw[q3,BitVec.toNat_add]
   have:(1#64).toNat=1:=rfl
   rw[this,Nat.mod_eq_of_lt (by omega)]
   omega
 · have l:y∈(b.x.commit5 b.boot b.k b.c.now).s.waits:=hy
   rw[q2]at l
   cases l
 · have:=W.val s hs
   rw[qOx]at this
   unfold Bx.dataAt at this
   rw[I]at this
   exact this
 · have h1:=W.dsk i hi O
   have hw:(b.x.commit5 b.boot b.k b.c.now).d.waits= []:=by rw[N];exact J
   refine⟨?_,fun y hy=>by
    have l:y∈(b.x.commit5 b.boot b.k b.c.now).d.waits:=hy
    rw[hw]at l
    cases l⟩
   have h2:qC8 ((b.x.commit5 b.boot b.k b.c.now).d.lasts[i]?.getD []) (b.x.commit5 b.boot b.k b.c.now).d.waits i (b.x.commit5 b.boot b.k b.c.now).d.waits.length=B i:=h1
   rw[hw]at h2
   exact h2
 · show(b.x.commit5 b.boot b.k b.c.now).holds (b.x.commit5 b.boot b.k b.c.now).s.lasts b.c.now (qAl (b.x.commit5 b.boot b.k b.c.now).eps)
   rw[a0,←I]
   exact q1
end
def Out (b:Bx)(B L B':Nat→List UInt8)(b':Bx):Prop:=∃L',Stp b.x.c.value L b'.x.c.value L' B∧qCX b' B' L'
section
variable {b b1 b2:Bx} {B B2 L:Nat→List UInt8} {m:Nat}
theorem Out.trans (h:Out b B L B b1)(k:∀c,qCX b1 B c→Out b1 B c B2 b2):Out b B L B2 b2:=by
 obtain⟨c,j,F⟩:=h
 obtain⟨f,q,l⟩:=k c F
 exact⟨f,j.trans q,l⟩
theorem Out.same (hc:b1.x.c=b.x.c)(h:qCX b1 B2 L):Out b B L B2 b1:=⟨L,.inl ⟨by rw[hc],rfl⟩,h⟩
theorem qFv (Lv:qCX b B L)(g:b.good m)(hm:m≤900000)(hg:b.x.p.gone=false):Out b B L B b.commit.2:=by
 obtain⟨L',c,f,_⟩:=qCw Lv g hm hg
 exact⟨L',c,f⟩
theorem qFw (Lv:qCX b B L)(g:b.good m)(hm:m≤900000)(hg:b.x.p.gone=false):b.commit.1=0∨b.commit.1=6∨b.commit.1=7:=by
 obtain⟨L',_,_,h,_⟩:=qCw Lv g hm hg
 exact h
theorem qLB (x:Wd)(y:Wr):(x.dWrite y).p=x.p.spend.2:=by unfold Wd.dWrite Wd.setD Dk.wrote;split<;>rfl
theorem qDX (x:Wd):x.dBarrier.p=x.p.spend.2:=by unfold Wd.dBarrier Wd.setD Dk.barred;split<;>rfl
theorem qKP (x:Wd)(y:Wr)(hs:x.p.spend.1=false)(i:Nat):(x.dWrite y).dk.read i=x.dk.read i:=by
 have e:(x.dWrite y).dk=x.dk.wrote x.p.spend.1 x.p.spend.2 y:=by
  unfold Wd.dWrite Dk.wrote
  split<;>rfl
 rw[e,hs]
 rfl
theorem qHz (W:Hw b B)(hL:Las b.x b.c.was L)(f:b.fine m)(hg:b.x.p.gone=false)(s:Nat)(hk:(b.leaf s).kind≠0)(hd:(b.leaf s).dirty=true)(hw:b.c.was=b.c.now) :
 Hw (b.spillX s) B∧Las (b.spillX s).x b.c.was L∧(b.spillX s).c=b.c∧(b.spillX s).boot=b.boot∧(b.spillX s).x.c=b.x.c∧(b.spillX s).x.d.no=b.x.d.no ∧
 ((b.spillE s=0∧b.x.d.no=false∧(b.spillX s).x.p.gone=false∧(b.spillX s).x.dk.read (b.leaf s).lba.toNat=B (b.leaf s).lba.toNat∧∀i:Nat,i<32→(b.spillX s).x.dk.read i=b.x.dk.read i∨(b.spillX s).x.dk.read i=B i) ∨
  (b.spillE s=5∧b.x.d.no=true∧b.spillX s=b)∨(b.spillE s=7∧(b.spillX s).x.p.gone=true)):=by
 have O:=W.val s hk
 have Y:=qDd f (qDf hk) hk
 have l:qEq b.c.was s=b.leaf s:=by unfold qEq Bx.leaf;rw[hw]
 have N:b.spillE s=if b.x.dOk then 0 else if(b.x.dPut (b.leaf s).lba (B (b.leaf s).lba.toNat)).p.gone then 7 else 5:=by unfold Bx.spillE Bx.spE;rw[O]
 have I:b.spillX s=⟨b.x.dPut (b.leaf s).lba (B (b.leaf s).lba.toNat),b.boot,b.k,b.c⟩:=by unfold Bx.spillX Bx.spX;rw[O]
 cases hno:b.x.d.no with
 | true =>
  have hp:b.x.dPut (b.leaf s).lba (B (b.leaf s).lba.toNat)=b.x:=by unfold Wd.dPut;rw[hno];rfl
  have G:b.x.dOk=false:=by unfold Wd.dOk;rw[hno];rfl
  have J:b.spillX s=b:=by rw[I,hp]
  rw[J]
  exact⟨W,hL,rfl,rfl,rfl,hno,.inr (.inl ⟨by rw[N,G,hp,hg];rfl,rfl,rfl⟩)⟩
 | false =>
  have hp:b.x.dPut (b.leaf s).lba (B (b.leaf s).lba.toNat)=b.x.dWrite ((b.leaf s).lba,B (b.leaf s).lba.toNat):=by unfold Wd.dPut;rw[hno];rfl
  have G:b.x.dOk=b.x.p.spend.1:=by unfold Wd.dOk;rw[hno];rfl
  rw[hp,G]at N
  rw[hp]at I
  rw[I,N]
  have q:Las (b.x.dWrite ((b.leaf s).lba,B (b.leaf s).lba.toNat)) b.c.was L:=hL.dWrite (s:=s) (by rw[l];exact hk) (by rw[l];exact hd) (by rw[l])
  have F:(b.x.dWrite ((b.leaf s).lba,B (b.leaf s).lba.toNat)).d.no=false:=by
   show(b.x.dk.wrote b.x.p.spend.1 b.x.p.spend.2 _).no=false
   unfold Dk.wrote
   split<;>exact hno
  cases hs:b.x.p.spend.1 with
  | true =>
   have V:∀i:Nat,i<32→(b.x.dWrite ((b.leaf s).lba,B (b.leaf s).lba.toNat)).dk.read i=b.x.dk.read i∨(b.x.dWrite ((b.leaf s).lba,B (b.leaf s).lba.toNat)).dk.read i=B i:=fun i Z=>by
    rw[qHw _ _ hs]
    split
    · rename_i h
      right
      show B (b.leaf s).lba.toNat=B i
      rw[show(b.leaf s).lba=(i:Int) from h]
      rfl
    · exact .inl rfl
   refine⟨?_,q,rfl,rfl,rfl,F,.inl ⟨rfl,rfl,by show(b.x.dWrite _).p.gone=false;rw[qLB];exact(qCh hs).2,?_,V⟩⟩
   · exact W.go (b':=⟨b.x.dWrite ((b.leaf s).lba,B (b.leaf s).lba.toNat),b.boot,b.k,b.c⟩) rfl rfl rfl (Lk.le.refl _) W.nb (fun _ _=>rfl) V rfl rfl
   · show(b.x.dWrite _).dk.read _=_
     rw[qHw _ _ hs,if_pos (by show(b.leaf s).lba=_;omega)]
  | false =>
   have j:(b.x.dWrite ((b.leaf s).lba,B (b.leaf s).lba.toNat)).p.gone=true:=by rw[qLB];exact qDJ hs
   refine⟨?_,q,rfl,rfl,rfl,F,.inr (.inr ⟨?_,j⟩)⟩
   · exact W.go (b':=⟨b.x.dWrite ((b.leaf s).lba,B (b.leaf s).lba.toNat),b.boot,b.k,b.c⟩) rfl rfl rfl (Lk.le.refl _) W.nb (fun _ _=>rfl) (fun i _=>.inl (qKP _ _ hs i)) rfl rfl
   · rw[if_neg (by decide),if_pos j]
theorem Hw.dBarrier (W:Hw b B)(f:b.fine m):Hw (b.setX b.x.dBarrier) B:=
 W.go (b':=b.setX b.x.dBarrier) rfl rfl rfl (Lk.le.refl _) W.nb (fun _ _=>rfl) (fun i c=>.inl (qDI f.x i c)) rfl rfl
theorem qE7 {x:Wd}(h:x.p.spend.1=true):x.dBarrier.d.waits= []:=by
 show(x.dk.barred x.p.spend.1 x.p.spend.2).waits= []
 rw[h]
 rfl
theorem qHA (Lv:qCX b B L)(g:b.good m)(hm:m≤800000)(hg:b.x.p.gone=false)(hq:0<b.c.age.q.length)(hw:b.c.was=b.c.now) :
 Out b B L B b.evict.2∧(b.evict.1=0∨b.evict.1=5∨b.evict.1=6∨b.evict.1=7):=by
 obtain⟨V,N⟩:=g.old hq
 unfold Bx.evict
 split
 · rename_i hd
   obtain⟨W1,l1,c1,F,j,a5,hE⟩:=qHz Lv.w Lv.las g.f hg b.oldest N hd hw
   have Y:=g.spill N
   split
   · rename_i he
     rcases hE with ⟨e,_⟩|⟨e,_,e2⟩|⟨e,e2⟩
     · exact absurd e he
     · refine⟨Out.same j ?_,.inr (.inl e)⟩
       show qCX (b.spillX b.oldest) B L
       rw[e2]
       exact Lv
     · exact⟨Out.same j ⟨W1,fun h=>(by rw[e2]at h;cases h),by rw[c1];exact l1,by rw[F,j];exact Lv.bt⟩,.inr (.inr (.inr e))⟩
   rename_i he
   obtain⟨_,a3,a4,a0,_⟩:=hE.resolve_right (fun h=>by rcases h with ⟨e,_⟩|⟨e,_⟩<;>exact he (by rw[e];decide))
   have W2:=W1.dBarrier Y.f
   have l2:=l1.dBarrier Y.f.x
   split
   · rename_i O
     exact⟨Out.same j ⟨W2,fun h=>(by
      have h':(b.spillX b.oldest).x.dBarrier.p.gone=false:=h
      rw[qDX,qDJ O]at h'
      cases h'),by show Las (b.spillX b.oldest).x.dBarrier (b.spillX b.oldest).c.was L;rw[c1];exact l2,by show(b.spillX b.oldest).boot=(b.spillX b.oldest).x.c.boots;rw[F,j];exact Lv.bt⟩,.inr (.inr (.inr rfl))⟩
   · rename_i O
     have J:(b.spillX b.oldest).x.p.spend.1=true:=by simpa using O
     have a1:(b.spillX b.oldest).leaf b.oldest=b.leaf b.oldest:=qDg (qBv b b.oldest).1 _
     have a2:=qDd g.f V N
     have Z:Hw (((b.spillX b.oldest).setX (b.spillX b.oldest).x.dBarrier).drops b.oldest) B:=W2.drops _ (fun _=>by
      show(b.spillX b.oldest).x.dBarrier.dk.read ((b.spillX b.oldest).leaf b.oldest).lba.toNat=B ((b.spillX b.oldest).leaf b.oldest).lba.toNat
      rw[a1,qDI Y.f.x _ (by omega)]
      exact a0)
     have l:qCX (((b.spillX b.oldest).setX (b.spillX b.oldest).x.dBarrier).drops b.oldest) B L:=⟨Z,fun _=>qE7 J,by show Las (b.spillX b.oldest).x.dBarrier (b.spillX b.oldest).c.was L;rw[c1];exact l2,by show(b.spillX b.oldest).boot=(b.spillX b.oldest).x.c.boots;rw[F,j];exact Lv.bt⟩
     have I:=(Y.dBarrier).drops b.oldest (by show _<(b.spillX b.oldest).c.now.length;rw[(qBv b _).1];exact V)
     have G:(((b.spillX b.oldest).setX (b.spillX b.oldest).x.dBarrier).drops b.oldest).x.p.gone=false:=by
      show(b.spillX b.oldest).x.dBarrier.p.gone=false
      rw[qDX]
      exact(qCh J).2
     refine⟨(Out.same (B:=B) (b1:=((b.spillX b.oldest).setX (b.spillX b.oldest).x.dBarrier).drops b.oldest) j l).trans (fun L1 h=>qFv h I (by omega) G),?_⟩
     rcases qFw l I (by omega) G with h|h|h
     · exact .inl h
     · exact .inr (.inr (.inl h))
     · exact .inr (.inr (.inr h))
 · rename_i hd
   have Z:Hw (b.drops b.oldest) B:=Lv.w.drops _ (fun hk=>by
    have a2:=qDd g.f V N
    exact Lv.w.dsk (b.leaf b.oldest).lba.toNat (by omega) (fun s O hl=>by
     have:s=b.oldest:=Lv.w.uniq s b.oldest O N (by omega)
     rw[this];simpa using hd))
   have l:qCX (b.drops b.oldest) B L:=⟨Z,Lv.dw,Lv.las,Lv.bt⟩
   have I:=g.drops b.oldest V
   refine⟨qFv l I (by omega) hg,?_⟩
   rcases qFw l I (by omega) hg with h|h|h
   · exact .inl h
   · exact .inr (.inr (.inl h))
   · exact .inr (.inr (.inr h))
theorem qJz (Lv:qCX b B L)(g:b.good m)(hm:m≤700000)(hg:b.x.p.gone=false) :
 Out b B L B b.room.2∧(b.room.1=0∨b.room.1=5∨b.room.1=6∨b.room.1=7):=by
 unfold Bx.room
 split
 · exact⟨Out.same rfl Lv,.inl rfl⟩
 have j:=qFv Lv g (by omega) hg
 split
 · refine⟨j,?_⟩
   rcases qFw Lv g (by omega) hg with h|h|h
   · exact .inl h
   · exact .inr (.inr (.inl h))
   · exact .inr (.inr (.inr h))
 rename_i I
 have l:b.commit.1=0:=by omega
 split
 · exact⟨j,.inl rfl⟩
 rename_i G
 have hon:=qCa l
 have q:=g.commit.full (by simpa using G) (by rw[qBJ l,(qBn b).1])
 have f:b.commit.2.c.was=b.commit.2.c.now:=by rw[qBJ l,(qBn b).1]
 refine⟨j.trans (fun F h=>(qHA h g.commit (by omega) hon q f).1),?_⟩
 obtain⟨F,_,h⟩:=j
 exact(qHA h g.commit (by omega) hon q f).2
theorem qQ5 {s:Nat}(h:b.c.free=some s):(qEq b.c.was s).kind=0:=by
 unfold Ca.free at h
 have f:=(List.find?_range_eq_some.1 h).1
 unfold Ca.isFree at f
 simp only[Bool.and_eq_true,beq_iff_eq]at f
 exact f.2
theorem qOz {n p s:Nat}{ls:List Lf}(hs:s<n)(hp:p<2)(h0:(qEq ls s).kind=0){y:Wr}(h1:y.1.toNat=gData n s)(h2:y.2.length=32):qMN n ls p y:=by
 have e:p=0∨p=1:=by omega
 refine⟨fun t f c=>?_,?_,?_⟩<;>unfold qRt<;>rw[h1,h2]<;>unfold gData
 · have:t≠s:=fun e=>by rw[e]at c;exact c h0
   omega
 · unfold gLeaf;rcases e with rfl|rfl<;>omega
 · unfold gRec;omega
theorem qJA (c:Bx)(s:Nat)(l:Lf):(c.puts s l).x=c.x∧(c.puts s l).c.was=c.c.was∧(c.puts s l).boot=c.boot∧c.ez1.puts s l=(c.puts s l).ez1:=by
 unfold Bx.puts
 have:c.ez1.c.slot l.lba=c.c.slot l.lba:=rfl
 rw[this]
 split<;>exact⟨rfl,rfl,rfl,rfl⟩
theorem qQ6 (f:b.fine m):b.ez1.fine (m+2):=by
 have c:=(f.x.setP (qGA (m+1))).dRefuse false
 exact⟨c,f.k,f.nl,f.wl,f.nok,f.wok⟩
theorem qLC (g:b.good m):b.ez1.good (m+2):=g.as (qQ6 g.f) (by omega) rfl rfl rfl
theorem qSx {c:Bx}{x:Wd}(h1:c.x.n=x.n)(h2:c.x.eps=x.eps)(h3:c.x.l=x.l)(h4:c.x.seed=x.seed)(h5:c.x.sd.snap=x.sd.snap)(s:Nat):c.valD s=(⟨x,c.boot,c.k,c.c⟩:Bx).valD s:=by
 unfold Bx.valD Bx.openL Bx.dataAt
 rw[h1,h2,h3,h4,h5]
 rfl
theorem qSy (b:Bx)(s:Nat)(lba:Int)(data:List UInt8):(b.layX s lba data).p=b.x.p.spend.2:=by
 show(b.x.sd.wrote b.x.p.spend.1 b.x.p.spend.2 _).p=_
 unfold Sd.wrote
 split<;>rfl
theorem qJB (Lv:qCX b B L)(g:b.good m)(hm:m≤100000)(hf:b.c.free.isSome=true){lba:Int}{data:List UInt8}{dirty:Bool}(hd:data.length=32)(hl:isD lba=true)(hdk:dirty=true∨b.x.dk.read lba.toNat=data) :
 (b.lays lba data dirty).2.x.c=b.x.c∧(((b.lays lba data dirty).1=0∧qCX (b.lays lba data dirty).2 (upd B lba.toNat data) L)∨(((b.lays lba data dirty).1=6∨(b.lays lba data dirty).1=7)∧qCX (b.lays lba data dirty).2 B L)):=by
 obtain⟨s,Y⟩:=Option.isSome_iff_exists.1 hf
 have N:=qDH Y
 have a0:0≤lba∧lba<32:=by
  unfold isD at hl
  simp at hl
  exact hl
 have j:s<b.x.n:=by have:=g.f.nl;omega
 have a1:=qIk b s lba data j hd
 have fL:(b.layL s lba data).fine (m+1):=g.f.x.seal _ _ _ _ (by omega)
 have O:Las (b.layX s lba data) b.c.was L:=by
  have h1:Las (b.layL s lba data) b.c.was L:=Lv.las.setL (Lk.le_seal _ _ _ _ _) (Lk.sle_seal _ _ _ _ _) (Lk.numb_seal Lv.las.nb _ _ _ _)
  exact h1.sWrite (qOz j (qC1 _) (qQ5 Y) (by show(((gData b.x.n s:Nat):Int)).toNat=_;rw[Int.toNat_natCast]) (by show(b.layS s lba data).1.length=32;rw[qDe,hd]))
 have J:∀t,t<b.c.now.length→t≠s→(b.layX s lba data).dat t=b.x.dat t:=fun t ht I=>by
  unfold Bx.layX
  rw[qJm fL a1 (s:=t) (by
   show gData b.x.n t+32≤(((gData b.x.n s:Nat):Int)).toNat∨(((gData b.x.n s:Nat):Int)).toNat+(b.layS s lba data).1.length≤gData b.x.n t
   rw[qDe,hd,Int.toNat_natCast]
   unfold gData
   omega)]
  rfl
 unfold Bx.lays
 rw[Y,Option.getD_some]
 split
 · exact⟨rfl,.inr ⟨.inl rfl,Lv⟩⟩
 split
 · rename_i l
   obtain⟨V,pw,pb,pe⟩:=qJA (b.lay s lba data) s (b.layF s lba data dirty)
   have F:=Lv.w.hon.puts (qLC g) (b.lay s lba data).ez1 rfl rfl s N (qJq Y) (b.layF s lba data dirty) (by show(1:Int)≠0;decide) a0 data rfl rfl rfl (Lk.le_seal _ _ _ _ _) (Lk.numb_seal Lv.w.nb _ _ _ _) ⟨rfl,rfl⟩ rfl (fun t ht I=>J t ht I) (fun c' G Z=>by
    rw[qSx (c:=c') (x:=b.layX s lba data) (by rw[G];rfl) (by rw[G];rfl) (by rw[G];rfl) (by rw[G];rfl) (by rw[G];rfl)]
    exact qJl g.f (by omega) Lv.w.nb s N lba data hd l _ rfl dirty Z) hdk
   rw[pe]at F
   refine⟨by show(Bx.x (Bx.puts _ _ _)).c=_;rw[V];rfl,.inl ⟨rfl,⟨F.bad,F.nb,F.val,F.uniq,F.dsk⟩,fun _=>?_,?_,?_⟩⟩
   · show(Bx.x (Bx.puts _ _ _)).d.waits= []
     rw[V]
     exact Lv.dw (qCh l).1
   · show Las (Bx.x (Bx.puts _ _ _)) (Bx.c (Bx.puts _ _ _)).was L
     rw[V,pw]
     exact O
   · show Bx.boot (Bx.puts _ _ _)=(Bx.x (Bx.puts _ _ _)).c.boots
     rw[V,pb]
     exact Lv.bt
 · rename_i l
   have q:b.x.p.spend.1=false:=by simpa using l
   have j:(b.layX s lba data).sd.snap=b.x.sd.snap:=by
    show((b.layL s lba data).sd.wrote b.x.p.spend.1 b.x.p.spend.2 _).snap=_
    rw[q]
    rfl
   refine⟨rfl,.inr ⟨.inr rfl,⟨?_,fun h=>?_,O,Lv.bt⟩⟩⟩
   · exact Lv.w.go (b':=b.lay s lba data) rfl rfl rfl (Lk.le_seal _ _ _ _ _) (Lk.numb_seal Lv.w.nb _ _ _ _) (fun t _=>by
      unfold Wd.dat
      show((b.layX s lba data).sd.snap.drop _).take 32=_
      rw[j]
      rfl) (fun _ _=>.inl rfl) rfl rfl
   · have h':(b.layX s lba data).p.gone=false:=h
     rw[qSy,qDJ q]at h'
     cases h'
theorem qMI (Lv:qCX b B L)(g:b.good m)(hm:m≤90000)(hg:b.x.p.gone=false){lba:Int}{data:List UInt8}(hd:data.length=32)(hl:isD lba=true) :
 ((b.write lba data).1=0∧Out b B L (upd B lba.toNat data) (b.write lba data).2)∨(((b.write lba data).1=5∨(b.write lba data).1=6∨(b.write lba data).1=7)∧Out b B L B (b.write lba data).2):=by
 obtain⟨O,q⟩:=qJz Lv g (by omega) hg
 unfold Bx.write
 split
 · rename_i l
   exact .inr ⟨q.resolve_left l,O⟩
 · rename_i l
   obtain⟨f,s1,c⟩:=O
   obtain⟨j,h⟩:=qJB c g.room (by omega) (qCW g (by omega)) hd hl (dirty:=true) (.inl rfl)
   rcases h with ⟨h,h'⟩|⟨h,h'⟩
   · exact .inl ⟨h,f,by rw[j];exact s1,h'⟩
   · exact .inr ⟨.inr h,f,by rw[j];exact s1,h'⟩
theorem qJC (Lv:qCX b B L)(g:b.good m)(hm:m≤90000)(hg:b.x.p.gone=false){lba:Int}(hl:isD lba=true) :
 ((b.discard lba).1=0∧Out b B L (upd B lba.toNat (List.replicate 32 0)) (b.discard lba).2)∨(((b.discard lba).1=5∨(b.discard lba).1=6∨(b.discard lba).1=7)∧Out b B L B (b.discard lba).2):=by
 obtain⟨O,V⟩:=qJz Lv g (by omega) hg
 have F:0≤lba∧lba<32:=by
  unfold isD at hl
  simp at hl
  exact hl
 unfold Bx.discard
 split
 · rename_i I
   exact .inr ⟨V.resolve_left I,O⟩
 · rename_i I
   obtain⟨s,l⟩:=Option.isSome_iff_exists.1 (qCW g (by omega))
   rw[l,Option.getD_some]
   obtain⟨G,s1,f⟩:=O
   obtain⟨j,pw,N,J⟩:=qJA b.room.2 s (Lf.nought lba)
   have h:=f.w.hon.puts (qLC g.room) b.room.2.ez1 rfl rfl s (qDH l) (qJq l) (Lf.nought lba) (by show(2:Int)≠0;decide) F (List.replicate 32 0) rfl rfl rfl (Lk.le.refl _) f.w.nb ⟨rfl,rfl⟩ rfl (fun _ _ _=>rfl) (fun Z Y q=>by
    unfold Bx.valD
    rw[q,if_pos (show(Lf.nought lba).kind=2 from rfl)]) (.inl rfl)
   rw[J]at h
   refine .inl ⟨rfl,G,?_,⟨h.bad,h.nb,h.val,h.uniq,h.dsk⟩,?_,?_,?_⟩
   · show Stp _ _ (Bx.x (Bx.puts b.room.2 s (Lf.nought lba))).c.value _ _
     rw[j]
     exact s1
   · show(Bx.x (Bx.puts b.room.2 s (Lf.nought lba))).p.gone=false→(Bx.x (Bx.puts b.room.2 s (Lf.nought lba))).d.waits= []
     rw[j]
     exact f.dw
   · show Las (Bx.x (Bx.puts b.room.2 s (Lf.nought lba))) (Bx.c (Bx.puts b.room.2 s (Lf.nought lba))).was G
     rw[j,pw]
     exact f.las
   · show Bx.boot (Bx.puts b.room.2 s (Lf.nought lba))=(Bx.x (Bx.puts b.room.2 s (Lf.nought lba))).c.boots
     rw[j,N]
     exact f.bt
theorem qOA (Lv:qCX b B L)(g:b.good m)(hm:m≤90000){lba:Int}(hl:isD lba=true) :
 ((b.read lba).1=(0,B lba.toNat)∨(b.read lba).1.1=6∨(b.read lba).1.1=7)∧Out b B L B (b.read lba).2:=by
 have O:0≤lba∧lba<32:=by
  unfold isD at hl
  simp at hl
  exact hl
 unfold Bx.read
 cases hs:b.c.slot lba with
 | some s =>
  obtain⟨l,q⟩:=qEX hs
  have G:=Lv.w.val s l
  rw[q]at G
  show((b.readV s (b.valD s)).1=(0,B lba.toNat)∨(b.readV s (b.valD s)).1.1=6∨(b.readV s (b.valD s)).1.1=7)∧Out b B L B (b.readV s (b.valD s)).2
  rw[G]
  have F:=Lv.w.hon.as (c:=b.ez1.touch s) rfl rfl rfl
  exact⟨.inl rfl,Out.same rfl ⟨⟨F.bad,F.nb,F.val,F.uniq,F.dsk⟩,Lv.dw,Lv.las,Lv.bt⟩⟩
 | none =>
  have I:b.x.dk.read lba.toNat=B lba.toNat:=Lv.w.dsk lba.toNat (by omega) (fun s l q=>absurd (by rw[q];omega) (qJp hs s l))
  have j:(b.x.dk.read lba.toNat).length=32:=Dk.read_length g.f.x.ok.d (by omega)
  show((b.readD lba (b.x.dk.read lba.toNat)).1=(0,B lba.toNat)∨(b.readD lba (b.x.dk.read lba.toNat)).1.1=6∨(b.readD lba (b.x.dk.read lba.toNat)).1.1=7)∧Out b B L B (b.readD lba (b.x.dk.read lba.toNat)).2
  rw[I]at j ⊢
  unfold Bx.readD
  split
  · exact⟨.inl rfl,Out.same rfl Lv⟩
  · rename_i h
    have N:b.c.free.isSome=true:=by
     cases hh:b.c.free with
     | none=>rw[hh]at h;exact absurd rfl h
     | some s=>rfl
    obtain⟨J,h⟩:=qJB Lv g (by omega) N (lba:=lba) (data:=B lba.toNat) (dirty:=false) j hl (.inr I)
    rw[qPZ]at h
    unfold Bx.readN
    rcases h with ⟨l,q⟩|⟨l,q⟩
    · rw[if_neg (by rw[l];decide)]
      exact⟨.inl rfl,Out.same J q⟩
    · rw[if_pos (by omega)]
      exact⟨.inr (by exact l),Out.same J q⟩
end
section
variable {b b1 b2:Bx} {B L:Nat→List UInt8} {m:Nat}
theorem qGJ:∀(k s:Nat) (b:Bx) (d:Bool) (m:Nat),Hw b B→Las b.x b.c.was L→b.good m→b.x.p.gone=false→b.c.was=b.c.now→k+s=b.c.now.length→qRo b B s→(d=false→b.x.d.waits= [])→(b.x.d.no=true→b.x.d.waits= []) →
 Hw (Bx.empF k s b d).2.1 B∧Las (Bx.empF k s b d).2.1.x b.c.was L∧(Bx.empF k s b d).2.1.c=b.c∧(Bx.empF k s b d).2.1.boot=b.boot∧(Bx.empF k s b d).2.1.x.c=b.x.c ∧
 (((Bx.empF k s b d).1=0∧(Bx.empF k s b d).2.1.x.p.gone=false∧qRo (Bx.empF k s b d).2.1 B b.c.now.length∧((Bx.empF k s b d).2.2=false→(Bx.empF k s b d).2.1.x.d.waits= []))∨((Bx.empF k s b d).1=5∧(Bx.empF k s b d).2.1.x.d.waits= [])∨((Bx.empF k s b d).1=7∧(Bx.empF k s b d).2.1.x.p.gone=true))
 | 0,s,b,d,m,W,hL,g,hg,hw,hk,hs,h1,h2=>⟨W,hL,rfl,rfl,rfl,.inl ⟨rfl,hg,by rw[show b.c.now.length=s by omega];exact hs,h1⟩⟩
 | k+1,s,b,d,m,W,hL,g,hg,hw,hk,hs,h1,h2=>by
  unfold Bx.empF
  split
  · rename_i N
    have J:=qDS g.f N
    obtain⟨W1,l1,F,q,j,a0,hE⟩:=qHz W hL g.f hg s J N hw
    split
    · rename_i V
      rcases hE with ⟨e,_⟩|⟨e,e1,e2⟩|⟨e,e2⟩
      · exact absurd e V
      · exact⟨W1,l1,F,q,j,.inr (.inl ⟨e,by show(b.spillX s).x.d.waits= [];rw[e2];exact h2 e1⟩)⟩
      · exact⟨W1,l1,F,q,j,.inr (.inr ⟨e,e2⟩)⟩
    · rename_i V
      obtain⟨_,O,Z,Y,hr⟩:=hE.resolve_right (fun h=>by rcases h with ⟨e,_⟩|⟨e,_⟩<;>exact V (by rw[e];decide))
      have hl:∀t,(b.spillX s).leaf t=b.leaf t:=qDg (by rw[F])
      have ih:=qGJ k (s+1) (b.spillX s) true (m+1) W1 (by rw[F];exact l1) (g.spill J) Z (by rw[F];exact hw) (by rw[F];omega) (fun t ht G I=>by
       rw[hl]at G I ⊢
       have a1:=qDd g.f (qDf G) G
       by_cases l:t=s
       · rw[l];exact Y
       · rcases hr (b.leaf t).lba.toNat (by omega) with h3|h3
         · rw[h3];exact hs t (by omega) G I
         · exact h3) (fun h=>by cases h) (fun h=>by rw[a0,O]at h;cases h)
      rw[F,q,j]at ih
      exact ih
  · rename_i N
    exact qGJ k (s+1) b d m W hL g hg hw (by omega) (fun t ht G I=>by
     by_cases l:t=s
     · rw[l]at I;exact absurd I N
     · exact hs t (by omega) G I) h1 h2
theorem Hw.bare (hb:b.c.bad=false)(hnb:b.x.l.numb)(hk:∀t,(b.leaf t).kind=0)(hr:∀i:Nat,i<32→b.x.dk.read i=B i):Hw b B:=
 ⟨hb,hnb,fun s h=>absurd (hk s) h,fun s _ h=>absurd (hk s) h,fun i f _=>hr i f⟩
theorem qHB (Lv:qCX b B L)(g:b.good m)(hg:b.x.p.gone=false)(hw:b.c.was=b.c.now) :
 qCX b.empty.2 B L∧b.empty.2.x.c=b.x.c∧(b.empty.1=0∨b.empty.1=5∨b.empty.1=7)∧(b.empty.1=0→b.empty.2.x.p.gone=false∧∀t,(b.empty.2.leaf t).kind=0):=by
 have J:=Lv.dw hg
 obtain⟨q,l1,G,N,j,Y⟩:=qGJ (L:=L) b.c.now.length 0 b false m Lv.w Lv.las g hg hw rfl (fun t ht=>absurd ht (by omega)) (fun _=>J) (fun _=>J)
 have V:=Bx.good.empF b.c.now.length 0 b false m g qle
 unfold Bx.empty Bx.empR
 obtain⟨r,hr⟩:∃r,r=Bx.empF b.c.now.length 0 b false:=⟨_,rfl⟩
 rw[←hr]at q l1 G N j Y V ⊢
 have l:r.2.1.boot=r.2.1.x.c.boots:=by rw[N,j];exact Lv.bt
 split
 · rename_i I
   rcases Y with ⟨e,_⟩|⟨e,e2⟩|⟨e,e2⟩
   · exact absurd e I
   · exact⟨⟨q,fun _=>e2,by rw[G];exact l1,l⟩,j,.inr (.inl e),fun h=>absurd h I⟩
   · exact⟨⟨q,fun h=>(by rw[e2]at h;cases h),by rw[G];exact l1,l⟩,j,.inr (.inr e),fun h=>absurd h I⟩
 rename_i I
 obtain⟨_,Z,O,a0⟩:=Y.resolve_right (fun h=>by rcases h with ⟨e,_⟩|⟨e,_⟩<;>exact I (by rw[e];decide))
 have F:∀i:Nat,i<32→r.2.1.x.dk.read i=B i:=q.hon.spilt_all (by rw[←G]at O;exact O)
 unfold Bx.empD
 cases hd:r.2.2 with
 | false =>
  exact⟨⟨Hw.bare q.bad q.nb (qDV _) F,fun _=>a0 hd,by show Las r.2.1.x r.2.1.c.was L;rw[G];exact l1,l⟩,j,.inl rfl,fun _=>⟨Z,qDV _⟩⟩
 | true =>
  have l2:=l1.dBarrier V.f.x
  cases hs:r.2.1.x.p.spend.1 with
  | false =>
   refine⟨⟨q.dBarrier V.f,fun h=>?_,by show Las r.2.1.x.dBarrier r.2.1.c.was L;rw[G];exact l2,l⟩,j,.inr (.inr rfl),fun h=>by cases h⟩
   have h':r.2.1.x.dBarrier.p.gone=false:=h
   rw[qDX,qDJ hs]at h'
   cases h'
  | true =>
   refine⟨⟨Hw.bare (b:=(r.2.1.setX r.2.1.x.dBarrier).clear) q.bad q.nb (qDV _) (fun i hi=>?_),fun _=>qE7 hs,by show Las r.2.1.x.dBarrier r.2.1.c.was L;rw[G];exact l2,l⟩,j,.inl rfl,fun _=>⟨?_,qDV _⟩⟩
   · show r.2.1.x.dBarrier.dk.read i=B i
     rw[qDI V.f.x i hi]
     exact F i hi
   · show r.2.1.x.dBarrier.p.gone=false
     rw[qDX]
     exact(qCh hs).2
theorem qGK (Lv:qCX b B L)(g:b.good m)(hm:m≤900000)(hg:b.x.p.gone=false)(hk:∀t,(b.leaf t).kind=0) :
 ∃L',Stp b.x.c.value L b.forget.2.x.c.value L' B∧qCX b.forget.2 B L'∧(b.forget.1=0∨b.forget.1=6∨b.forget.1=7)∧(b.forget.1=0→L'=B):=by
 obtain⟨V,s1,j,he,Z⟩:=qCw Lv g hm hg
 unfold Bx.forget
 split
 · rename_i h
   exact⟨V,s1,j,he,fun h'=>absurd h' h⟩
 rename_i h
 have q:b.commit.1=0:=by omega
 obtain⟨I,N⟩:=Z q
 have hon:=qCa q
 have l:=qBJ q
 have G:∀t,(b.commit.2.leaf t).kind=0:=fun t=>by rw[qDg (qBn b).1];exact hk t
 have F:∀t,(qEq b.commit.2.c.was t).kind=0:=fun t=>by rw[l];exact hk t
 refine⟨V,s1,⟨Hw.bare j.w.bad j.w.nb G (fun i hi=>j.w.dsk i hi (fun s Y=>absurd (G s) Y)),fun _=>j.dw hon,⟨⟨qAl b.commit.2.x.eps,?_⟩,j.las.away,fun s J=>absurd (F s) J,fun s t J=>absurd (F s) J,j.las.dsk,j.las.nb⟩,j.bt⟩,?_,fun _=>I⟩
 · rw[←l]at N
   refine N.as rfl rfl (fun hc=>?_) rfl rfl (Lk.le.refl _) (Lk.sle.refl _)
   show(qQi b.commit.2.x.p.spend.1 b.commit.2.x.eps (qAl b.commit.2.x.eps)).contains _=true
   unfold qQi
   split
   · have O:=qF8 b.commit.2.x.eps (qAl b.commit.2.x.eps) g.commit.f.x.ok.ep
     have:=qKK O.1
     rw[O.2]at this
     exact this
   · exact hc
 · show(if b.commit.2.x.p.spend.1=true then(0:Int) else 7)=0∨_
   split
   · exact .inl rfl
   · exact .inr (.inr rfl)
theorem qOB (Lv:qCX b B L)(hk:∀t,(b.leaf t).kind=0):qCX (b.setX b.x.kAdd) B L:=by
 refine⟨Hw.bare (b:=b.setX b.x.kAdd) Lv.w.bad Lv.w.nb hk (fun i f=>Lv.w.dsk i f (fun s j=>absurd (hk s) j)),fun h=>?_,Lv.las.kAdd,Lv.bt⟩
 have c:b.x.p.spend.2.gone=false:=h
 cases hs:b.x.p.spend.1 with
 | false=>rw[qDJ hs]at c;cases c
 | true=>exact Lv.dw (qCh hs).1
theorem qKQ (Lv:qCX b B L)(g:b.good m)(hm:m≤800000)(hg:b.x.p.gone=false) :
 ∃L',Stp b.x.c.value L b.rotate.2.x.c.value L' B∧qCX b.rotate.2 B L'∧(b.rotate.1=0∨b.rotate.1=5∨b.rotate.1=6∨b.rotate.1=7)∧(b.rotate.1=0→L'=B):=by
 obtain⟨G,s1,q,he,Z⟩:=qCw Lv g (by omega) hg
 unfold Bx.rotate
 split
 · rename_i h
   refine⟨G,s1,q,?_,fun j=>absurd j h⟩
   rcases he with h1|h1|h1
   · exact .inl h1
   · exact .inr (.inr (.inl h1))
   · exact .inr (.inr (.inr h1))
 rename_i h
 have f:b.commit.1=0:=by omega
 obtain⟨a0,_⟩:=Z f
 have hon:=qCa f
 have N:b.commit.2.c.was=b.commit.2.c.now:=by rw[qBJ f,(qBn b).1]
 obtain⟨F,c2,e2,Y⟩:=qHB q g.commit hon N
 have s2:Stp b.x.c.value L b.commit.2.empty.2.x.c.value G B:=by rw[c2];exact s1
 have g2:=g.commit.empty
 unfold Bx.rotE
 split
 · rename_i V
   refine⟨G,s2,F,?_,fun j=>absurd j V⟩
   rcases e2 with h1|h1|h1
   · exact .inl h1
   · exact .inr (.inl h1)
   · exact .inr (.inr (.inr h1))
 rename_i V
 obtain⟨a1,O⟩:=Y (by omega)
 have l:=qOB F O
 split
 · exact⟨G,s2,l,.inr (.inr (.inr rfl)),fun j=>by cases j⟩
 · rename_i hs
   have J:b.commit.2.empty.2.x.p.spend.1=true:=by simpa using hs
   obtain⟨L2,s4,I,e4,h4⟩:=qGK l (g2.kAdd (by omega)) (by omega) (qCh J).2 O
   refine⟨L2,s2.trans s4,I,?_,h4⟩
   rcases e4 with h1|h1|h1
   · exact .inl h1
   · exact .inr (.inr (.inl h1))
   · exact .inr (.inr (.inr h1))
theorem qKR (Lv:qCX b L L)(g:b.good m)(hm:m≤800000)(hg:b.x.p.gone=false)(hw:b.c.was=b.c.now) :
 qCX b.finish.2 L L∧(b.finish.1=0∨b.finish.1=5∨b.finish.1=6∨b.finish.1=7):=by
 unfold Bx.finish
 split
 · exact⟨Lv,.inl rfl⟩
 obtain⟨j,V,J,F⟩:=qHB Lv g hg hw
 split
 · refine⟨j,?_⟩
   rcases J with h1|h1|h1
   · exact .inl h1
   · exact .inr (.inl h1)
   · exact .inr (.inr (.inr h1))
 · rename_i Y
   obtain⟨l,N⟩:=F (by omega)
   obtain⟨G,q,f,I,O⟩:=qGK j g.empty (by omega) l N
   have:G=L:=by rcases q with ⟨_,h⟩|⟨_,h⟩<;>exact h
   rw[this]at f
   refine⟨f,?_⟩
   rcases I with h1|h1|h1
   · exact .inl h1
   · exact .inr (.inr (.inl h1))
   · exact .inr (.inr (.inr h1))
theorem qMJ {x:Wd}{ls:List Lf}(h:Las x ls L)(f:x.fine m)(hm:m≤700000)(hp:0#32<qAl x.eps)(hz:x.p.ez)(hsw:x.s.waits= [])(hdw:x.d.waits= []) :
 ∀r,r=x.opens→(r.1=0∨r.1=5∨r.1=6∨r.1=7)∧(∀b,r.2.2=some b→qCX b L L)∧(r.2.2=none→∃ls,Las r.2.1 ls L):=by
 rintro r rfl
 have G:=hz.spend
 obtain⟨e,hh⟩:=h.hold
 have O:qD9 (x.n:Int)=true:=f.ok.sl
 have hn:=qAo O
 have Z:x.boot.sd.snap=x.s.lasts:=by
  show qB5 x.s.lasts x.s.waits=_
  rw[hsw]
  rfl
 have J:x.boot.c.value=x.c.value∧x.boot.c.at_=x.c.at_:=by
  have:x.boot.c=if x.p.spend.1 then x.c.boot else x.c:=rfl
  rw[this]
  split<;>exact⟨rfl,rfl⟩
 have hl:x.boot.loadO=some ls:=hh.load O rfl rfl rfl J.1 J.2 (Lk.le.refl _) (Lk.sle.refl _) Z
 have N:=h.boot
 have I:Las x.boot.loadX ls L:=by
  unfold Wd.loadX
  split
  · exact N
  split
  · exact N
  · exact N.setL (qDU _ _ _) (qJs _ _) (qCH N.nb _ _)
 obtain⟨q1,q2,q3,q4,q5,q6,q7⟩:=@qBu x.boot
 have h1:=qIm (x:=x.boot) (by show x.n≤16;omega) hl
 have g:=qDT (x:=x.boot.loadX) f.boot.loadX (by rw[q2];exact hp) (by rw[q1];exact h1.1) h1.2
 have Y:x.boot.loadX.s.waits= []:=by rw[q6];exact hsw
 have l:x.boot.loadX.d.waits= []:=by rw[q7];exact hdw
 have j:x.boot.loadX.sd.snap=x.boot.loadX.s.lasts:=by
  show qB5 x.boot.loadX.s.lasts x.boot.loadX.s.waits=_
  rw[Y]
  rfl
 have Lv:qCX (x.boot.loadX.fresh ls) L L:=by
  refine⟨⟨rfl,I.nb,fun s O=>?_,I.uniq,fun i hi J=>?_⟩,fun _=>l,I,rfl⟩
  · have:=I.val s O
    rw[←j]at this
    exact this
  · have:=(I.dsk i hi J).1
    show qC8 (x.boot.loadX.d.lasts[i]?.getD []) x.boot.loadX.d.waits i x.boot.loadX.d.waits.length=_
    rw[l]
    exact this
 have hg:(x.boot.loadX.fresh ls).x.p.gone=false:=by
  show x.boot.loadX.p.gone=false
  rw[q5]
  exact G.2.1
 obtain⟨q,e2⟩:=qKR Lv g (by omega) hg rfl
 unfold Wd.opens
 rw[if_neg (by rw[hz.1];decide),if_neg (by rw[G.1];decide),hl]
 have V:x.boot.opensL (some ls)=Bx.openR (x.boot.loadX.fresh ls).finish:=rfl
 rw[V]
 unfold Bx.openR
 split
 · exact⟨e2,fun b F=>(by cases F),fun _=>⟨_,q.las⟩⟩
 · exact⟨.inl rfl,fun b F=>(by cases F;exact q),fun F=>(by cases F)⟩
theorem qQ7 (Lv:qCX b B L)(g:b.good m)(hm:m≤90000)(c:Cl) :
 (b.doC c).1.1≠3∧(b.doC c).1.1≠4∧((b.doC c).1.1=0→c.is=true∧(c.kind=1→(b.doC c).1.2=B c.lba.toNat)) ∧
 ∃L',Stp b.x.c.value L (b.doC c).2.x.c.value L' B∧qCX (b.doC c).2 (if(b.doC c).1.1=0 then(mdo B c).2 else B) L'∧((b.doC c).1.1=0→c.kind≠1→c.kind≠2→c.kind≠4→L'=B):=by
 have fail:∀(e:Int) (D:List UInt8) (b':Bx),b.doC c=((e,D),b')→(e=1∨e=5∨e=6∨e=7)→Out b B L B b'→(b.doC c).1.1≠3∧(b.doC c).1.1≠4∧((b.doC c).1.1=0→c.is=true∧(c.kind=1→(b.doC c).1.2=B c.lba.toNat)) ∧
  ∃L',Stp b.x.c.value L (b.doC c).2.x.c.value L' B∧qCX (b.doC c).2 (if(b.doC c).1.1=0 then(mdo B c).2 else B) L'∧((b.doC c).1.1=0→c.kind≠1→c.kind≠2→c.kind≠4→L'=B):=by
  intro e D b' hb he O
  obtain⟨L',s1,l1⟩:=O
  rw[hb]
  have V:¬e=0:=by omega
  refine⟨by show ¬e=3;omega,by show ¬e=4;omega,fun h=>absurd h V,L',s1,?_,fun h=>absurd h V⟩
  show qCX b' (if e=0 then _ else B) L'
  rw[if_neg V]
  exact l1
 have ok:∀(D:List UInt8) (b':Bx) (L':Nat→List UInt8),b.doC c=((0,D),b')→c.is=true→(c.kind=1→D=B c.lba.toNat)→Stp b.x.c.value L b'.x.c.value L' B→qCX b' (mdo B c).2 L'→(c.kind≠1→c.kind≠2→c.kind≠4→L'=B)→(b.doC c).1.1≠3∧(b.doC c).1.1≠4∧((b.doC c).1.1=0→c.is=true∧(c.kind=1→(b.doC c).1.2=B c.lba.toNat)) ∧
  ∃L',Stp b.x.c.value L (b.doC c).2.x.c.value L' B∧qCX (b.doC c).2 (if(b.doC c).1.1=0 then(mdo B c).2 else B) L'∧((b.doC c).1.1=0→c.kind≠1→c.kind≠2→c.kind≠4→L'=B):=by
  intro D b' L' hb l hD s1 l1 hB
  rw[hb]
  refine⟨by show ¬(0:Int)=3;decide,by show ¬(0:Int)=4;decide,fun _=>⟨l,hD⟩,L',s1,?_,fun _=>hB⟩
  show qCX b' (if(0:Int)=0 then _ else B) L'
  rw[if_pos rfl]
  exact l1
 have j:b.doC c=b.doC c:=rfl
 conv at j=>rhs;unfold Bx.doC
 split at j
 · exact fail _ _ _ j (by omega) (Out.same rfl Lv)
 rename_i hg
 have J:b.x.p.gone=false:=by simpa using hg
 rw[if_neg (by rw[Lv.w.bad];decide)]at j
 split at j
 · exact fail _ _ _ j (by omega) (Out.same rfl Lv)
 rename_i h3
 have l:c.is=true:=by simpa using h3
 have f:=l
 unfold Cl.is at f
 have G:∀(h:c.is=true),(mdo B c)=if c.kind=1 then((0,B c.lba.toNat),B) else if c.kind=2 then((0,[]),upd B c.lba.toNat c.data) else if c.kind=4 then((0,[]),upd B c.lba.toNat (List.replicate 32 0)) else((0,[]),B):=fun h=>by
  unfold mdo
  rw[if_neg (by rw[h];decide)]
 split at j
 · rename_i hk
   rw[if_pos hk]at f
   obtain⟨N,O⟩:=qOA Lv g hm f
   obtain⟨r,a0⟩:∃r,r=b.read c.lba:=⟨_,rfl⟩
   rw[←a0]at j N O
   obtain⟨⟨e,D⟩,b'⟩:=r
   rcases N with N|N|N
   · have Y:e=0∧D=B c.lba.toNat:=Prod.mk.inj N
     rw[Y.1]at j
     obtain⟨L',s1,l1⟩:=O
     refine ok _ _ L' j l (fun _=>Y.2) s1 ?_ (fun h=>absurd hk h)
     rw[G l,if_pos hk]
     exact l1
   · have:e=6:=N
     exact fail _ _ _ j (by omega) O
   · have:e=7:=N
     exact fail _ _ _ j (by omega) O
 rename_i q
 rw[if_neg q]at f
 split at j
 · rename_i F
   rw[if_neg (by omega),if_pos F]at f
   simp only[Bool.and_eq_true,decide_eq_true_eq]at f
   rcases qMI Lv g hm J f.2 f.1 with ⟨h,O⟩|⟨h,O⟩
   · rw[h]at j
     obtain⟨L',s1,l1⟩:=O
     refine ok _ _ L' j l (fun h=>absurd h q) s1 ?_ (fun _ h=>absurd F h)
     rw[G l,if_neg q,if_pos F]
     exact l1
   · exact fail _ _ _ j (by omega) O
 rename_i F
 split at j
 · rename_i Z
   obtain⟨L',s1,l1,he,V⟩:=qCw Lv g (by omega) J
   by_cases h:b.commit.1=0
   · rw[h]at j
     refine ok _ _ L' j l (fun h=>absurd h q) s1 ?_ (fun _ _ _=>(V h).1)
     rw[G l,if_neg q,if_neg F,if_neg (by omega)]
     exact l1
   · exact fail _ _ _ j (by omega) ⟨L',s1,l1⟩
 rename_i Z
 split at j
 · rename_i I
   rw[if_pos I]at f
   rcases qJC Lv g hm J f with ⟨h,O⟩|⟨h,O⟩
   · rw[h]at j
     obtain⟨L',s1,l1⟩:=O
     refine ok _ _ L' j l (fun h=>absurd h q) s1 ?_ (fun _ _ h=>absurd I h)
     rw[G l,if_neg q,if_neg F,if_pos I]
     exact l1
   · exact fail _ _ _ j (by omega) O
 · rename_i I
   obtain⟨L',s1,l1,he,V⟩:=qKQ Lv g (by omega) J
   by_cases h:b.rotate.1=0
   · rw[h]at j
     refine ok _ _ L' j l (fun h=>absurd h q) s1 ?_ (fun _ _ _=>V h)
     rw[G l,if_neg q,if_neg F,if_neg I]
     exact l1
   · exact fail _ _ _ j (by omega) ⟨L',s1,l1⟩
end
theorem qJD {col:Nat→Nat}{w:World}{P:qAU}{X:Nat}{o:Bo}(h:qAL col w P X o):Calls prog 17 #[.pointer (some ⟨X,0,none⟩)] w fun e w'=>e= .returned (.pointer (some ⟨P.W,0,none⟩))∧w=w':=by
 obtain⟨cv,sv,us,c⟩:=h
 have f:=c.blk.cell 0
 go_enter func17,ntmps17
 go_wp2_with fail
 refine bodyPost_ret (v:=.pointer (some ⟨P.W,0,none⟩)) (by simp[results,results17,go_sem];done) rfl ⟨rfl,rfl⟩
def Tk (o:Bo)(B L:Nat→List UInt8):Prop:=match o.c with
 | some b=>qCX b B L
 | none=>∃ls,Las o.x ls L
def Cl.keeps (c:Cl):Prop:=c.kind≠1∧c.kind≠2∧c.kind≠4
instance (c:Cl):Decidable c.keeps:=by unfold Cl.keeps;exact inferInstance
def qDi (B L:Nat→List UInt8)(a:Ac)(err:Int)(was v:BitVec 64):Nat→List UInt8:=if a.kind=1∧was.toNat<v.toNat then B else if a.kind=1∧err=0∧a.call.keeps then B else L
def qCx (B L:Nat→List UInt8)(a:Ac)(err:Int)(was v:BitVec 64):Nat→List UInt8:=if a.kind=3 then qDi B L a err was v else if a.kind=1∧err=0 then(mdo B a.call).2 else B
section
variable {o:Bo} {B L:Nat→List UInt8} {m:Nat}
theorem Tk.las (T:Tk o B L):∃ls,Las o.cur ls L:=by
 unfold Tk at T
 unfold Bo.cur
 cases hc:o.c with
 | none=>rw[hc]at T;exact T
 | some b=>rw[hc]at T;exact⟨_,T.las⟩
theorem Tk.setX (T:Tk o B L){x:Wd}(hp:x.p.gone=o.cur.p.gone)(hs:x.s=o.cur.s)(hd:x.d.lasts=o.cur.d.lasts∧x.d.waits=o.cur.d.waits)(hn:x.n=o.cur.n)(hse:x.seed=o.cur.seed)(he:x.eps=o.cur.eps)(hc:x.c=o.cur.c)(hl:x.l=o.cur.l):Tk (o.setX x) B L:=by
 have go:∀(z:Wd) (ls:List Lf),x.s=z.s→x.d.lasts=z.d.lasts→x.d.waits=z.d.waits→x.n=z.n→x.seed=z.seed→x.eps=z.eps→x.c=z.c→x.l=z.l→Las z ls L→Las x ls L:=fun z ls j G J F N I q f h =>
  h.same F N I (by rw[q]) (by rw[q]) (by rw[f];exact Lk.le.refl _) (by rw[f];exact Lk.sle.refl _) (by rw[f];exact h.nb) (by rw[j]) (by rw[j];exact h.away) G J
 unfold Tk at T ⊢
 unfold Bo.cur at *
 unfold Bo.setX
 cases hoc:o.c with
 | none =>
  rw[hoc]at T
  simp only[hoc]at *
  obtain⟨ls,h⟩:=T
  exact⟨ls,go _ _ hs hd.1 hd.2 hn hse he hc hl h⟩
 | some b =>
  rw[hoc]at T
  simp only[hoc]at *
  refine⟨?_,fun h=>?_,go _ _ hs hd.1 hd.2 hn hse he hc hl T.las,?_⟩
  · refine T.w.go (b':=b.setX x) hn hse he (by show b.x.l.le x.l;rw[hl];exact Lk.le.refl _) (by show x.l.numb;rw[hl];exact T.w.nb) (fun s _=>?_) (fun i _=>.inl ?_) rfl rfl
    · show((qB5 x.s.lasts x.s.waits).drop (gData x.n s)).take 32=_
      rw[hs,hn]
      rfl
    · show qC8 (x.d.lasts[i]?.getD []) x.d.waits i x.d.waits.length=_
      rw[hd.1,hd.2]
      rfl
  · show x.d.waits= []
    rw[hd.2]
    exact T.dw (by rw[←hp];exact h)
  · show b.boot=x.c.boots
    rw[hc]
    exact T.bt
theorem Tk.crash (T:Tk o B L)(g:o.good m)(hm:m≤80000)(ks:List Bool):((o.crash ks).1.1=0∨(o.crash ks).1.1=5∨(o.crash ks).1.1=6∨(o.crash ks).1.1=7)∧Tk (o.crash ks).2 L L:=by
 obtain⟨ls,c⟩:=T.las
 obtain⟨h,l,j⟩:=qMJ (c.crash g.f ks) (g.f.crash ks) (by omega) (show 0#32<qAl (o.cur.crash ks).eps from g.ep) ⟨rfl,rfl⟩ rfl rfl _ rfl
 refine⟨h,?_⟩
 unfold Bo.crash Bo.open_ Tk
 show match (o.cur.crash ks).opens.2.2 with|some b=>qCX b L L|none=>∃ls,Las (o.cur.crash ks).opens.2.1 ls L
 cases hc:(o.cur.crash ks).opens.2.2 with
 | none=>exact j hc
 | some b=>exact l b hc
theorem qDY {a:Ac}{err:Int}{was v:BitVec 64}(h:a.kind≠1):qDi B L a err was v=L:=by
 unfold qDi
 rw[if_neg (fun e=>h e.1),if_neg (fun e=>h e.1)]
theorem qOC {a:Ac}{err:Int}{was v:BitVec 64}(h:a.kind≠1)(h3:a.kind≠3):qCx B L a err was v=B:=by
 unfold qCx
 rw[if_neg h3,if_neg (fun e=>h e.1)]
theorem qQ8 (T:Tk o B L)(g:o.good m)(hm:m≤80000)(a:Ac)(h4:a.kind≠4)(h6:a.kind≠6) :
 (o.act a).1.1≠3∧(o.act a).1.1≠4∧(a.kind=1→(o.act a).1.1=0→a.call.is=true∧(a.call.kind=1→(o.act a).1.2=B a.call.lba.toNat)) ∧
 Tk (o.act a).2 (qCx B L a (o.act a).1.1 o.cur.c.value (o.act a).2.cur.c.value) (qDi B L a (o.act a).1.1 o.cur.c.value (o.act a).2.cur.c.value):=by
 have other:∀r:(Int×List UInt8)×Bo,o.act a=r→(r.1.1=0∨r.1.1=1)→a.kind≠1→a.kind≠3→Tk r.2 B L→(o.act a).1.1≠3∧(o.act a).1.1≠4∧(a.kind=1→(o.act a).1.1=0→a.call.is=true∧(a.call.kind=1→(o.act a).1.2=B a.call.lba.toNat)) ∧
  Tk (o.act a).2 (qCx B L a (o.act a).1.1 o.cur.c.value (o.act a).2.cur.c.value) (qDi B L a (o.act a).1.1 o.cur.c.value (o.act a).2.cur.c.value):=by
  intro r hr Y f j Z
  rw[qOC f j,qDY f,hr]
  exact⟨by omega,by omega,fun h=>absurd h f,Z⟩
 by_cases f:a.kind=1
 · have J:o.act a=o.call a.call:=by unfold Bo.act;rw[if_pos f]
   have j:a.kind≠3:=by omega
   rw[J]
   unfold Bo.call
   cases hc:o.c with
   | none =>
    have N:∀v,qCx B L a 8 v v=B∧qDi B L a 8 v v=L:=fun v=>by
     unfold qCx qDi
     rw[if_neg j,if_neg (fun e=>absurd e.2 (by decide)),if_neg (fun e=>Nat.lt_irrefl _ e.2),if_neg (fun e=>absurd e.2.1 (by decide))]
     exact⟨rfl,rfl⟩
    refine⟨by show ¬(8:Int)=3;decide,by show ¬(8:Int)=4;decide,fun _ h=>absurd (show(8:Int)=0 from h) (by decide),?_⟩
    show Tk o (qCx B L a 8 o.cur.c.value o.cur.c.value) (qDi B L a 8 o.cur.c.value o.cur.c.value)
    rw[(N _).1,(N _).2]
    exact T
   | some b =>
    have l:o.cur=b.x:=by unfold Bo.cur;rw[hc]
    unfold Tk at T
    rw[hc]at T
    obtain⟨e3,e4,hD,L',s1,l1,V⟩:=qQ7 T (g.bx b hc) (by omega) a.call
    refine⟨e3,e4,fun _ h=>hD h,?_⟩
    show qCX (b.doC a.call).2 (qCx B L a (b.doC a.call).1.1 o.cur.c.value (b.doC a.call).2.x.c.value) (qDi B L a (b.doC a.call).1.1 o.cur.c.value (b.doC a.call).2.x.c.value)
    rw[l]
    have I:qCx B L a (b.doC a.call).1.1 b.x.c.value (b.doC a.call).2.x.c.value=if(b.doC a.call).1.1=0 then(mdo B a.call).2 else B:=by
     unfold qCx
     rw[if_neg j]
     by_cases q:(b.doC a.call).1.1=0
     · rw[if_pos ⟨f,q⟩,if_pos q]
     · rw[if_neg (fun e=>q e.2),if_neg q]
    have hl:qDi B L a (b.doC a.call).1.1 b.x.c.value (b.doC a.call).2.x.c.value=L':=by
     unfold qDi
     rcases s1 with ⟨s1,s2⟩|⟨s1,s2⟩
     · rw[if_neg (fun e=>by have:=e.2;rw[s1]at this;exact Nat.lt_irrefl _ this)]
       split
       · rename_i h
         exact(V h.2.1 h.2.2.1 h.2.2.2.1 h.2.2.2.2).symm
       · exact s2.symm
     · rw[if_pos ⟨f,s1⟩]
       exact s2.symm
    rw[I,hl]
    exact l1
 by_cases j:a.kind=3
 · have J:o.act a=o.crash a.keep:=by unfold Bo.act;rw[if_neg f,if_neg (by omega),if_pos j]
   obtain⟨h1,h2⟩:=T.crash g hm a.keep
   have I:∀e v w,qCx B L a e v w=L:=fun e v w=>by unfold qCx;rw[if_pos j,qDY f]
   rw[J,I,qDY f]
   exact⟨by omega,by omega,fun h=>absurd h f,h2⟩
 by_cases F:a.kind=2
 · refine other _ (by unfold Bo.act;rw[if_neg f,if_pos F]) (.inl rfl) f j (T.setX (x:=o.cur.setP (o.cur.p.setFuse a.n)) ?_ rfl ⟨rfl,rfl⟩ rfl rfl rfl rfl rfl)
   show(o.cur.p.setFuse a.n).gone=_
   unfold Pw.setFuse
   first|rfl|(split<;>rfl)
 by_cases G:a.kind=5
 · refine other _ (by unfold Bo.act;rw[if_neg f,if_neg F,if_neg j,if_neg h4,if_pos G]) (.inl rfl) f j ?_
   exact T
 by_cases O:a.kind=7
 · exact other _ (by unfold Bo.act;rw[if_neg f,if_neg F,if_neg j,if_neg h4,if_neg G,if_neg h6,if_pos O]) (.inl rfl) f j (T.setX (x:=o.cur.dRefuse (decide (a.n≠0))) rfl rfl ⟨rfl,rfl⟩ rfl rfl rfl rfl rfl)
 · exact other _ (by unfold Bo.act;rw[if_neg f,if_neg F,if_neg j,if_neg h4,if_neg G,if_neg h6,if_neg O]) (.inr rfl) f j T
theorem qTc (n:Nat)(hs:qD9 (n:Int)=true):Tk (Bo.new n 1#64 true) (fun _=>List.replicate 32 0) (fun _=>List.replicate 32 0):=by
 have H:=Hon.new n hs true
 have l:∀s,(qEq (List.replicate n Lf.zero) s).kind=0:=fun s=>by
  unfold qEq
  rw[List.getElem?_replicate]
  split<;>rfl
 have j:qB7 (List.replicate n Lf.zero):=((Bo.new_good n 1#64 true hs).bx _ rfl).f.nok
 refine⟨⟨H.bad,H.nb,H.val,H.uniq,H.dsk⟩,fun _=>rfl,⟨⟨0#32,List.length_replicate,j,fun _=>rfl,fun h=>absurd rfl h⟩,fun y c=>(by cases c),fun s h=>absurd (l s) h,fun s t h=>absurd (l s) h,fun i q _=>⟨?_,fun y c=>(by cases c)⟩,H.nb⟩,rfl⟩
 show(List.replicate 32 (List.replicate 32 (0:UInt8)))[i]?.getD []=_
 rw[List.getElem?_replicate,if_pos q]
 rfl
theorem qRw {a:Ac}{err:Int}{was v:BitVec 64}(hB:∀i,i<32→(B i).length=32)(hL:∀i,i<32→(L i).length=32)(hm:∀i,i<32→((mdo B a.call).2 i).length=32):(∀i,i<32→(qCx B L a err was v i).length=32)∧∀i,i<32→(qDi B L a err was v i).length=32:=by
 have h:∀i,i<32→(qDi B L a err was v i).length=32:=fun i c=>by
  unfold qDi
  split
  · exact hB i c
  split
  · exact hB i c
  · exact hL i c
 refine⟨fun i c=>?_,h⟩
 unfold qCx
 split
 · exact h i c
 split
 · exact hm i c
 · exact hB i c
end
theorem qQ9 {log:Int}(h:2≤log∧log≤4):∃n:Nat,wrap64 (2^log.toNat)=(n:Int)∧qD9 (n:Int)=true:=by
 have:log=2∨log=3∨log=4:=by omega
 rcases this with rfl|rfl|rfl
 · exact⟨4,by first|kernel_rfl|(unfold wrap64;decide)|simp[wrap64],rfl⟩
 · exact⟨8,by first|kernel_rfl|(unfold wrap64;decide)|simp[wrap64],rfl⟩
 · exact⟨16,by first|kernel_rfl|(unfold wrap64;decide)|simp[wrap64],rfl⟩
theorem qHy.at {col':Nat→Nat}{w w':World}{m:Nat}{x:Ac}{r:Value×Value×Value}(h:qHy w x r)(hs:qOu x)(e:Ext m (fun _=>0) col' w w'):qHt col' w' x r.1 r.2.1 r.2.2:=
 (⟨⟨h.s1,fun _ _ _ _ _=>rfl⟩,⟨h.s2,fun _ _ _ _ _=>rfl⟩,h.s3,fun _ _ _ _=>rfl,by have:=hs.2.1;omega,by have:=hs.1;omega,by have:=hs.2.2;omega⟩:qHt (fun _=>0) w x r.1 r.2.1 r.2.2).ext e
end Go.Proofs.YtdlgihbpiakebaaGreat
