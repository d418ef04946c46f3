import Derived.Test.YtdlgihbpiakebaaGreatMk01
import Derived.Test.YtdlgihbpiakebaaGreatMk16
import Derived.Test.YtdlgihbpiakebaaGreatMk17
import Derived.Test.YtdlgihbpiakebaaGreatMk25
import Derived.Test.YtdlgihbpiakebaaGreatMk26
import Derived.Test.YtdlgihbpiakebaaGreatMk27
import Derived.Test.YtdlgihbpiakebaaGreatMk29
import Derived.Maps.OwnSet
set_option maxRecDepth 100000
set_option maxHeartbeats 4000000
namespace Go.Proofs.YtdlgihbpiakebaaGreat
open Go Go.RowKit Tryz
structure Iss where
 key:qAD
 nonce:Nn
 head:List UInt8
 data:List UInt8
 out:List UInt8
 tag:qAD
inductive Lk
 | real:Lk
 | ideal:List Iss→List (List UInt8)→Lk
structure Wd where
 n:Nat
 p:Pw
 s:Sd
 d:Dk
 c:Cn
 seed:BitVec 64
 eps:List (BitVec 32)
 l:Lk
structure qAU where
 W:Nat
 b:Nat
 s:Nat
 d:Nat
 c:Nat
 k:Nat
 l:Nat
section
variable {col col':Nat→Nat} {w w':World}
def qOI (col:Nat→Nat)(w:World)(K b:Nat)(s:Sd):Prop:=∃gl cap ex vw vt us ut,qFe w K b gl cap ex vw vt us ut s∧col K=1∧col gl=1∧(∀g,vw.ownBlock=some g→col g=1)∧(∀g,vt.ownBlock=some g→col g=1)∧(∀u∈us,∀g,u.ownBlock=some g→col g=1)∧(∀u∈ut,∀g,u.ownBlock=some g→col g=1)
theorem qOI.frame {K b:Nat}{s:Sd}{p':Pw}(h:qOI col w K b s)(hs:qB0 1 col col' w w')(hp:qD1 w' b p'):qOI col' w' K b { s with p:=p' }:=by
 obtain⟨gl,cap,ex,vw,vt,us,ut,X,Z,N,c3,G,F,q⟩:=h
 obtain⟨l1,l2,l3,O,l5⟩:=X.low
 have I:∀(v:Value) (l:List Wr) (us:List Value),qB3 w v l us→∀u∈us,∀g,u.ownBlock=some g→g<w.heap.size:=fun v l us h u j g f=>by
  obtain⟨c,V⟩:=h.blk j f;exact V.lt
 obtain⟨b1,J⟩:=hs.blk X.blk Z
 obtain⟨b2,Y⟩:=hs.blk X.lst N
 exact⟨gl,cap,ex,vw,vt,us,ut,⟨b1,hp,b2,X.hcap,X.most,X.wts.same hs c3 F,X.trc.same hs G q,X.wne,X.tne,X.wt⟩,J,Y,fun g f=>hs.old g (O g f) (c3 g f),fun g f=>hs.old g (l5 g f) (G g f),
  fun u j g f=>hs.old g (I _ _ _ X.wts u j g f) (F u j g f),fun u j g f=>hs.old g (I _ _ _ X.trc u j g f) (q u j g f)⟩
def But (col:Nat→Nat)(w:World)(i:Nat)(k:Nat):Prop:=k<w.heap.size∧¬(col k=i∨col k=6)
theorem qOI.at {K b:Nat}{s:Sd}(h:qOI col w K b s)(hb:col b=6):qGP (But col w 1) w K b s:=by
 obtain⟨gl,cap,ex,vw,vt,us,ut,X,I,q,c3,G,l,j⟩:=h
 have no:∀g,col g=1→¬But col w 1 g:=fun g c hn=>hn.2 (.inl c)
 exact⟨gl,cap,ex,vw,vt,us,ut,X,⟨no _ I,fun hn=>hn.2 (.inr hb),no _ q,fun g c=>no _ (c3 g c),fun g c=>no _ (G g c),fun u f g c=>no _ (l u f g c),fun u f g c=>no _ (j u f g c)⟩,fun k F=>F.1⟩
theorem qCJ {i g:Nat}(h:¬But col w i g)(hl:g<w'.heap.size)(h6:∀k,k<w.heap.size→col k=6→k≠g):qAi col i w w' g=i:=by
 by_cases c:g<w.heap.size
 · rw[qAd c]
   rcases Classical.byContradiction (fun hn=>h ⟨c,hn⟩) with h1|h1
   · exact h1
   · exact absurd rfl (h6 g c h1)
 · exact qAk (by omega) hl
theorem qOI.of_at {K b:Nat}{s:Sd}(h:qGP (But col w 1) w' K b s)(h6:∀k,k<w.heap.size→col k=6→k=b)(_:w.heap.size≤w'.heap.size):qOI (qAi col 1 w w') w' K b s∧qD1 w' b s.p:=by
 obtain⟨gl,cap,ex,vw,vt,us,ut,X,O,_⟩:=h
 obtain⟨l1,l2,l3,I,Y⟩:=X.low
 obtain⟨Z,n2,n3,N,V,J,n7⟩:=X.ne
 have G:∀(v:Value) (l:List Wr) (us:List Value),qB3 w' v l us→∀u∈us,∀g,u.ownBlock=some g→g<w'.heap.size:=fun v l us h u q g f=>by
  obtain⟨c,F⟩:=h.blk q f;exact F.lt
 have j:∀g,g≠b→∀k,k<w.heap.size→col k=6→k≠g:=fun g f k hk F e=>f (by rw[←e,h6 k hk F])
 exact⟨⟨gl,cap,ex,vw,vt,us,ut,X,qCJ O.K l1 (j _ Z.symm),qCJ O.gl l3 (j _ n2.symm),fun g f=>qCJ (O.vw g f) (I g f) (j _ (N g f).1),fun g f=>qCJ (O.vt g f) (Y g f) (j _ (V g f).1),
  fun u q g f=>qCJ (O.us u q g f) (G _ _ _ X.wts u q g f) (j _ (J u q g f).1),fun u q g f=>qCJ (O.ut u q g f) (G _ _ _ X.trc u q g f) (j _ (n7 u q g f).1)⟩,X.pw⟩
def DkC (col:Nat→Nat)(w:World)(K b:Nat)(d:Dk):Prop:=∃ls vw vt us ut,qDO w K b ls vw vt us ut d∧col K=2∧(∀u∈ls,∀g,u.ownBlock=some g→col g=2)∧(∀g,vw.ownBlock=some g→col g=2)∧(∀g,vt.ownBlock=some g→col g=2)∧(∀u∈us,∀g,u.ownBlock=some g→col g=2)∧(∀u∈ut,∀g,u.ownBlock=some g→col g=2)
theorem qBo.same {i:Nat}{ls:List Value}{l:List (List UInt8)}(h:qBo w ls l)(hs:qB0 i col col' w w')(h2:∀u∈ls,∀g,u.ownBlock=some g→col g=i):qBo w' ls l:=
 ⟨h.len,fun j x u f c=>hs.own (h.each j x u f c) (h2 u (List.mem_of_getElem? c))⟩
theorem DkC.frame {K b:Nat}{d:Dk}{p':Pw}(h:DkC col w K b d)(hs:qB0 2 col col' w w')(hp:qD1 w' b p'):DkC col' w' K b { d with p:=p' }:=by
 obtain⟨ls,vw,vt,us,ut,X,Z,I,c3,J,G,F⟩:=h
 obtain⟨l1,l2,V,l5⟩:=X.low
 have N:∀(v:Value) (l:List Wr) (us:List Value),qB3 w v l us→∀u∈us,∀g,u.ownBlock=some g→g<w.heap.size:=fun v l us h u j g f=>by
  obtain⟨c,q⟩:=h.blk j f;exact q.lt
 have Y:∀u∈ls,∀g,u.ownBlock=some g→g<w.heap.size:=fun u j g f=>by
  obtain⟨c,q⟩:=X.lst.blk j f;exact q.lt
 obtain⟨b1,O⟩:=hs.blk X.blk Z
 exact⟨ls,vw,vt,us,ut,⟨b1,hp,X.lst.same hs I,X.wts.same hs c3 G,X.trc.same hs J F,X.wt⟩,O,fun u j g f=>hs.old g (Y u j g f) (I u j g f),fun g f=>hs.old g (V g f) (c3 g f),fun g f=>hs.old g (l5 g f) (J g f),
  fun u j g f=>hs.old g (N _ _ _ X.wts u j g f) (G u j g f),fun u j g f=>hs.old g (N _ _ _ X.trc u j g f) (F u j g f)⟩
theorem DkC.at {K b:Nat}{d:Dk}(h:DkC col w K b d)(hb:col b=6):qJH (But col w 2) w K b d:=by
 obtain⟨ls,vw,vt,us,ut,X,I,q,c3,G,l,j⟩:=h
 have no:∀g,col g=2→¬But col w 2 g:=fun g c hn=>hn.2 (.inl c)
 exact⟨ls,vw,vt,us,ut,X,⟨no _ I,fun hn=>hn.2 (.inr hb),fun u f g c=>no _ (q u f g c),fun g c=>no _ (c3 g c),fun g c=>no _ (G g c),fun u f g c=>no _ (l u f g c),fun u f g c=>no _ (j u f g c)⟩,fun k F=>F.1⟩
theorem DkC.of_at {K b:Nat}{d:Dk}(h:qJH (But col w 2) w' K b d)(h6:∀k,k<w.heap.size→col k=6→k=b)(_:w.heap.size≤w'.heap.size):DkC (qAi col 2 w w') w' K b d∧qD1 w' b d.p:=by
 obtain⟨ls,vw,vt,us,ut,X,O,_⟩:=h
 obtain⟨l1,l2,G,Z⟩:=X.low
 obtain⟨n1,J,V,N⟩:=X.ne
 have l:∀g,g≠b→∀k,k<w.heap.size→col k=6→k≠g:=fun g f k I j e=>f (by rw[←e,h6 k I j])
 have F:∀g cur,Blk w' g cur 5→¬But col w 2 g→qAi col 2 w w' g=2:=fun g cur j Y=>qCJ Y j.lt (l _ (N g cur j).1)
 refine⟨⟨ls,vw,vt,us,ut,X,qCJ O.K l1 (l _ n1.symm),fun u q g f=>?_,fun g f=>qCJ (O.vw g f) (G g f) (l _ (J g f).1),fun g f=>qCJ (O.vt g f) (Z g f) (l _ (V g f).1),fun u q g f=>?_,fun u q g f=>?_⟩,X.pw⟩
 · obtain⟨c,j⟩:=X.lst.blk q f
   exact F g c j (O.ls u q g f)
 · obtain⟨c,j⟩:=X.wts.blk q f
   exact F g c j (O.us u q g f)
 · obtain⟨c,j⟩:=X.trc.blk q f
   exact F g c j (O.ut u q g f)
def qM5 (col:Nat→Nat)(w:World)(K b:Nat)(seed:BitVec 64)(l:List (BitVec 32)):Prop:=∃g cap,qBt 96 w K b g seed l cap∧col K=4∧col g=4
theorem qM5.frame {K b:Nat}{seed:BitVec 64}{l:List (BitVec 32)}(h:qM5 col w K b seed l)(hs:qB0 4 col col' w w'):qM5 col' w' K b seed l:=by
 obtain⟨g,cap,X,j,c⟩:=h
 obtain⟨cur,f⟩:=X.blkg
 obtain⟨b1,q⟩:=hs.blk X.blk j
 exact⟨g,cap,⟨b1,hs.own X.row (by intro g' e;cases e;exact c)⟩,q,hs.old g f.lt c⟩
end
def qBY:List Iss→List (Value×Value×Value)→List Value
 | x::l,r::rs=>U x.key.1::U x.key.2::W x.nonce.epoch::W x.nonce.slot::U x.nonce.version::r.1::r.2.1::r.2.2::U x.tag.1::U x.tag.2::qBY l rs
 | _,_=>[]
theorem qE6:∀(l:List Iss) (rs:List (Value×Value×Value)),rs.length=l.length→(qBY l rs).length=l.length*10
 | [],_,_=>by simp[qBY]
 | x::l,[],h=>by simp at h
 | x::l,r::rs,h=>by
  have:=qE6 l rs (by simpa using h)
  simp[qBY,this];omega
theorem qFB:∀(l:List Iss) (rs:List (Value×Value×Value)) (x:Iss) (r:Value×Value×Value),rs.length=l.length→qBY (l++ [x]) (rs++ [r])=qBY l rs++ [U x.key.1,U x.key.2,W x.nonce.epoch,W x.nonce.slot,U x.nonce.version,r.1,r.2.1,r.2.2,U x.tag.1,U x.tag.2]
 | [],[],x,r,_=>by simp[qBY]
 | [],_::_,x,r,h=>by simp at h
 | _::_,[],x,r,h=>by simp at h
 | y::l,v::rs,x,r,h=>by
  have:=qFB l rs x r (by simpa using h)
  simp[qBY,this]
theorem qGd:∀(l:List Iss) (rs:List (Value×Value×Value)) (i:Nat) (x:Iss) (r:Value×Value×Value),l[i]? = some x→rs[i]? = some r→∀j u,[U x.key.1,U x.key.2,W x.nonce.epoch,W x.nonce.slot,U x.nonce.version,r.1,r.2.1,r.2.2,U x.tag.1,U x.tag.2][j]? = some u→(qBY l rs)[i*10+j]? = some u
 | [],_,i,x,r,h,_=>by simp at h
 | _::_,[],i,x,r,_,h=>by simp at h
 | y::l,v::rs,0,x,r,h,k=>by
  simp at h k
  subst h;subst k
  intro j u c
  have hl:=(List.getElem?_eq_some_iff.1 c).1
  simp only[List.length_cons,List.length_nil,Nat.zero_add]at hl
  rw[Nat.zero_mul,Nat.zero_add]
  rw[←c]
  match j,hl with
  | 0,_|1,_|2,_|3,_|4,_|5,_|6,_|7,_|8,_|9,_=>rfl
  | j+10,h=>omega
 | y::l,v::rs,i+1,x,r,h,k=>by
  intro j u c
  have:=qGd l rs i x r (by simpa using h) (by simpa using k) j u c
  rw[show(i+1)*10+j=i*10+j+10 by omega]
  simpa [qBY] using this
def qKj (g:Nat)(u:Value):Prop:=∀a n c,u= .slice (some a) n c→0<n→a.block≠g
structure qEf (w:World)(v:Value)(l:List Iss)(rs:List (Value×Value×Value)):Prop where
 row:w.ownsRow 0 184 10 v l.length (qBY l rs)
 len:rs.length=l.length
 each:∀(i:Nat) (x:Iss) (r:Value×Value×Value),l[i]? = some x→rs[i]? = some r→Sl w r.1 x.head.length (qA1 x.head)∧Sl w r.2.1 x.data.length (qA1 x.data)∧Sl w r.2.2 x.out.length (qA1 x.out)
 apart:∀r∈rs,∀g,v.ownBlock=some g→qKj g r.1∧qKj g r.2.1∧qKj g r.2.2
theorem qEf.nil (w:World):qEf w (.slice none 0 0) [] []:=⟨⟨rfl,.inl ⟨rfl,rfl⟩⟩,rfl,by simp,by simp⟩
def qIW (col:Nat→Nat)(u:Value):Prop:=∀a n c,u= .slice (some a) n c→0<n→col a.block=5
structure qLb (col:Nat→Nat)(v:Value)(rs:List (Value×Value×Value)):Prop where
 row:∀g,v.ownBlock=some g→col g=5
 e:∀r∈rs,qIW col r.1∧qIW col r.2.1∧qIW col r.2.2
section
variable {col col':Nat→Nat} {w w':World}
theorem qB0.sl {i:Nat}{u:Value}{n:Nat}{cs:List Value}(hs:qB0 i col col' w w')(h:Sl w u n cs)(h0:∀a c,u= .slice (some a) n c→0<cs.length→col a.block=i):Sl w' u n cs:=by
 rcases h with h|⟨a,cap,rfl,h1,h2,h3⟩
 · exact .inl h
 · refine .inr ⟨a,cap,rfl,h1,h2,fun j u F=>?_⟩
   have e:(a.add j).block=a.block:=by unfold Addr.add;split<;>rfl
   have l:=h3 j u F
   have q:(a.add j).block<w.heap.size:=World.block_lt_of_cell? w _ l
   have f:col (a.add j).block=i:=by rw[e];exact h0 a cap rfl (by have:=(List.getElem?_eq_some_iff.1 F).1;omega)
   unfold World.cell? at l ⊢
   rw[hs.block _ q f]
   exact l
theorem qB0.slc {u:Value}{bs:List UInt8}(hs:qB0 5 col col' w w')(h:Sl w u bs.length (qA1 bs))(hc:qIW col u):Sl w' u bs.length (qA1 bs)∧qIW col' u:=by
 refine⟨hs.sl h fun a c e hl=>hc a _ c e (by rw[qA7]at hl;exact hl),fun a n c e hn=>?_⟩
 have f:=h
 rcases h with ⟨h,_⟩|⟨a',cap,h,_⟩
 · rw[h]at e;cases e
 · rw[h]at e;cases e
   exact hs.old _ (Sl.low f _ _ h (by rw[qA7];exact hn)) (hc _ _ _ h hn)
theorem qEf.same {v:Value}{l:List Iss}{rs:List (Value×Value×Value)}(h:qEf w v l rs)(hs:qB0 5 col col' w w')(hc:qLb col v rs):qEf w' v l rs∧qLb col' v rs:=by
 refine⟨⟨hs.own h.row hc.row,h.len,fun i x r O c=>?_,h.apart⟩,fun g J=>hs.old g (qAp h.row J) (hc.row g J),fun r c=>?_⟩
 · obtain⟨q,j,I⟩:=h.each i x r O c
   obtain⟨F,G,c3⟩:=hc.e r (List.mem_of_getElem? c)
   exact⟨(hs.slc q F).1,(hs.slc j G).1,(hs.slc I c3).1⟩
 · obtain⟨i,N⟩:=List.getElem?_of_mem c
   have f:i<l.length:=by rw[←h.len];exact(List.getElem?_eq_some_iff.1 N).1
   obtain⟨q,j,I⟩:=h.each i _ r (List.getElem?_eq_getElem f) N
   obtain⟨F,G,c3⟩:=hc.e r c
   exact⟨(hs.slc q F).2,(hs.slc j G).2,(hs.slc I c3).2⟩
def sumNo (sums:List (List UInt8))(row:List UInt8):Nat:=sums.findIdx (· == row)+1
def qCe (w:World)(m:Nat)(sums:List (List UInt8)):Prop:=∃D:DataW Unit,w.ownsMap prog 9 (plainElem prog 29) m sums.length D∧Maps.Tidy D∧Maps.size D=sums.length ∧
 ∀row:List UInt8,Maps.has D (.string row)=sums.contains row∧(sums.contains row=true→D.atKey (.string row) (.lit (.int .u64 0))= .lit (.int .u64 (sumNo sums row:Nat)))
theorem qCe.same {m i:Nat}{sums:List (List UInt8)}(h:qCe w m sums)(hs:qB0 i col col' w w')(hc:col m=i):qCe w' m sums∧col' m=i:=by
 obtain⟨D,f,G,F,j⟩:=h
 have hl:=f.lt
 obtain⟨l,c,q,r⟩:=f
 exact⟨⟨D,⟨l,c,(hs.block m hl hc).trans q,r⟩,G,F,j⟩,hs.old m hl hc⟩
def OrC (col:Nat→Nat)(w:World)(O:Nat)(iss:List Iss)(sums:List (List UInt8)):Prop:=∃v rs m,Blk w O #[v,.map (some m)] 182∧qEf w v iss rs∧qCe w m sums∧col O=5∧col m=5∧qLb col v rs
theorem OrC.frame {O:Nat}{iss:List Iss}{sums:List (List UInt8)}(h:OrC col w O iss sums)(hs:qB0 5 col col' w w'):OrC col' w' O iss sums:=by
 obtain⟨v,rs,m,c,J,I,j,l,c3⟩:=h
 obtain⟨b1,f⟩:=hs.blk c j
 obtain⟨b2,G⟩:=J.same hs c3
 obtain⟨q,F⟩:=I.same hs l
 exact⟨v,rs,m,b1,b2,q,f,F,G⟩
def LkC (col:Nat→Nat)(w:World)(L:Nat):Lk→Prop
 | .real=>∃f3 f4,Blk w L #[.func (.func 58) #[] #[],.func (.func 59) #[] #[],.func (.func 60) #[] #[],f3,f4] 144∧col L=5
 | .ideal iss sums=>∃O f3 f4,Blk w L #[.func (.func 64) #[.pointer (some ⟨O,0,none⟩)] #[],.func (.func 65) #[.pointer (some ⟨O,0,none⟩)] #[],.func (.func 66) #[.pointer (some ⟨O,0,none⟩)] #[],f3,f4] 144∧col L=5∧OrC col w O iss sums
theorem LkC.frame {L:Nat}{l:Lk}(h:LkC col w L l)(hs:qB0 5 col col' w w'):LkC col' w' L l:=by
 cases l with
 | real =>
  obtain⟨q,c,f,j⟩:=h
  obtain⟨b1,F⟩:=hs.blk f j
  exact⟨q,c,b1,F⟩
 | ideal iss sums =>
  obtain⟨O,q,c,f,j,G⟩:=h
  obtain⟨b1,F⟩:=hs.blk f j
  exact⟨O,q,c,b1,F,G.frame hs⟩
structure qAW (col:Nat→Nat)(w:World)(P:qAU)(x:Wd):Prop where
 blk:Blk w P.W #[.int .i64 x.n,.pointer (some ⟨P.b,0,none⟩),.pointer (some ⟨P.s,0,none⟩),.pointer (some ⟨P.d,0,none⟩),.pointer (some ⟨P.c,0,none⟩),.pointer (some ⟨P.k,0,none⟩),.pointer (some ⟨P.l,0,none⟩)] 67
 cW:col P.W=7
 pw:qD1 w P.b x.p
 cb:col P.b=6
 one:∀k,k<w.heap.size→col k=6→k=P.b
 ssd:qOI col w P.s P.b { x.s with p:=x.p }
 dsk:DkC col w P.d P.b { x.d with p:=x.p }
 cnt:qHM w P.c P.b x.c
 cc:col P.c=3
 keys:qM5 col w P.k P.b x.seed x.eps
 lock:LkC col w P.l x.l
 top:Top col w
variable {P:qAU} {x:Wd}
theorem qAW.free (h:qAW col w P x)(hs:∀i,1≤i→i≤7→qB0 i col col' w w')(ht:Top col' w')(h6:∀k,k<w'.heap.size→col' k=6→k<w.heap.size∧col k=6):qAW col' w' P x:=by
 obtain⟨q,l⟩:=(hs 7 (by omega) (by omega)).blk h.blk h.cW
 obtain⟨c,f⟩:=(hs 6 (by omega) (by omega)).blk h.pw h.cb
 obtain⟨F,G⟩:=(hs 3 (by omega) (by omega)).blk h.cnt h.cc
 exact⟨q,l,c,f,fun k J I=>by obtain⟨j,N⟩:=h6 k J I;exact h.one k j N,h.ssd.frame (hs 1 (by omega) (by omega)) c,h.dsk.frame (hs 2 (by omega) (by omega)) c,F,G,h.keys.frame (hs 4 (by omega) (by omega)),h.lock.frame (hs 5 (by omega) (by omega)),ht⟩
theorem qAW.kept (h:qAW col w P x)(hk:qA4 w w'):qAW col w' P x:=
 h.free (fun i _ _=>qB0.kept hk i) (fun k hl=>h.top k (Nat.le_trans hk.size hl)) (fun k hl c=>⟨Classical.byContradiction fun hn=>by rw[h.top k (by omega)]at c;omega,c⟩)
theorem qAW.chg {bs:List Nat}(h:qAW col w P x)(hc:Chg bs w w')(hb:∀b∈bs,col b=0∨7<col b):qAW col w' P x:=
 h.free (fun i j l=>qB0.chg hc (fun b f e=>by have:=hb b f;omega)) (fun k hl=>h.top k (Nat.le_trans hc.size hl)) (fun k hl c=>⟨Classical.byContradiction fun hn=>by rw[h.top k (by omega)]at c;omega,c⟩)
end
def Wd.sd (x:Wd):Sd:={ x.s with p:=x.p }
def Wd.dk (x:Wd):Dk:={ x.d with p:=x.p }
def Wd.setS (x:Wd)(s:Sd):Wd:={ x with p:=s.p,s:=s }
def Wd.setD (x:Wd)(d:Dk):Wd:={ x with p:=d.p,d:=d }
def Wd.setP (x:Wd)(p:Pw):Wd:={ x with p:=p }
def Wd.setC (x:Wd)(p:Pw)(c:Cn):Wd:={ x with p:=p,c:=c }
def Wd.setK (x:Wd)(p:Pw)(e:List (BitVec 32)):Wd:={ x with p:=p,eps:=e }
section
variable {col col':Nat→Nat} {w w':World} {P:qAU} {x:Wd}
theorem qAW.stepS (h:qAW col w P x){s:Sd}(ha:qGP (But col w 1) w' P.s P.b s)(hs:qA8 (But col w 1) w w'):qAW (qAi col 1 w w') w' P (x.setS s)∧Ext 6 col (qAi col 1 w w') w w':=by
 have hp:∀c,(c=1∨c=6)→1≤c∧c≤6:=by omega
 have E:Ext 6 col (qAi col 1 w w') w w':=Ext.of_sameOn (P:=fun c=>c=1∨c=6) h.top hs hp (by omega)
 have S:∀j,¬(j=1∨j=6)→qB0 j col (qAi col 1 w w') w w':=fun j F=>qB0.of_sameOn (P:=fun c=>c=1∨c=6) hs F
 obtain⟨G,q⟩:=qOI.of_at ha h.one hs.size
 obtain⟨J,I⟩:=(S 7 (by omega)).blk h.blk h.cW
 obtain⟨N,O⟩:=(S 3 (by omega)).blk h.cnt h.cc
 refine⟨⟨J,I,q,by rw[qAd (Blk.lt h.pw)];exact h.cb,fun k V l=>?_,G,h.dsk.frame (S 2 (by omega)) q,N,O,h.keys.frame (S 4 (by omega)),h.lock.frame (S 5 (by omega)),E.top⟩,E⟩
 by_cases f:k<w.heap.size
 · rw[qAd f]at l
   exact h.one k f l
 · rw[qAk (by omega) V]at l
   omega
theorem qAW.stepD (h:qAW col w P x){d:Dk}(ha:qJH (But col w 2) w' P.d P.b d)(hs:qA8 (But col w 2) w w'):qAW (qAi col 2 w w') w' P (x.setD d)∧Ext 6 col (qAi col 2 w w') w w':=by
 have hp:∀c,(c=2∨c=6)→1≤c∧c≤6:=by omega
 have E:Ext 6 col (qAi col 2 w w') w w':=Ext.of_sameOn (P:=fun c=>c=2∨c=6) h.top hs hp (by omega)
 have S:∀j,¬(j=2∨j=6)→qB0 j col (qAi col 2 w w') w w':=fun j F=>qB0.of_sameOn (P:=fun c=>c=2∨c=6) hs F
 obtain⟨G,q⟩:=DkC.of_at ha h.one hs.size
 obtain⟨J,I⟩:=(S 7 (by omega)).blk h.blk h.cW
 obtain⟨N,O⟩:=(S 3 (by omega)).blk h.cnt h.cc
 refine⟨⟨J,I,q,by rw[qAd (Blk.lt h.pw)];exact h.cb,fun k V l=>?_,h.ssd.frame (S 1 (by omega)) q,G,N,O,h.keys.frame (S 4 (by omega)),h.lock.frame (S 5 (by omega)),E.top⟩,E⟩
 by_cases f:k<w.heap.size
 · rw[qAd f]at l
   exact h.one k f l
 · rw[qAk (by omega) V]at l
   omega
theorem qNr {i:Nat}{bs:List Nat}(hc:Chg bs w w')(hb:∀b∈bs,col b=i∨col b=6):qA8 (But col w i) w w':=
 ⟨hc.os,hc.tape,hc.output,hc.size,fun k h c=>hc.block k h fun f=>c.2 (hb k f)⟩
theorem qAW.stepC (h:qAW col w P x){p:Pw}{c:Cn}(hp':qD1 w' P.b p)(hc':qHM w' P.c P.b c)(l:Chg [P.b,P.c] w w'):qAW (qAi col 3 w w') w' P (x.setC p c)∧Ext 6 col (qAi col 3 w w') w w':=by
 have q:qA8 (But col w 3) w w':=qNr l (by intro b F;simp at F;rcases F with rfl|rfl;exact .inr h.cb;exact .inl h.cc)
 have hp:∀c,(c=3∨c=6)→1≤c∧c≤6:=by omega
 have E:Ext 6 col (qAi col 3 w w') w w':=Ext.of_sameOn (P:=fun c=>c=3∨c=6) h.top q hp (by omega)
 have S:∀j,¬(j=3∨j=6)→qB0 j col (qAi col 3 w w') w w':=fun j G=>qB0.of_sameOn (P:=fun c=>c=3∨c=6) q G
 obtain⟨J,I⟩:=(S 7 (by omega)).blk h.blk h.cW
 refine⟨⟨J,I,hp',by rw[qAd (Blk.lt h.pw)];exact h.cb,fun k N l=>?_,h.ssd.frame (S 1 (by omega)) hp',h.dsk.frame (S 2 (by omega)) hp',hc',by rw[qAd (Blk.lt h.cnt)];exact h.cc,h.keys.frame (S 4 (by omega)),h.lock.frame (S 5 (by omega)),E.top⟩,E⟩
 by_cases f:k<w.heap.size
 · rw[qAd f]at l
   exact h.one k f l
 · rw[qAk (by omega) N]at l
   omega
theorem qAW.stepP (h:qAW col w P x){p:Pw}(hp':qD1 w' P.b p)(hc:Chg [P.b] w w'):qAW (qAi col 3 w w') w' P (x.setP p)∧Ext 6 col (qAi col 3 w w') w w':=by
 have f:P.c≠P.b:=fun e=>by have:=h.cb;have:=h.cc;rw[e]at this;omega
 have:=h.stepC (c:=x.c) hp' (hc.blk h.cnt (by simpa using f)) (hc.mono (by simp))
 exact this
theorem qAW.stepK (h:qAW col w P x){p:Pw}{g g' cap':Nat}{e:List (BitVec 32)}(hp':qD1 w' P.b p)(hk':qBt 96 w' P.k P.b g' x.seed e cap')(hK:col P.k=4)(hKl:P.k<w.heap.size)(hg:col g=4)(hgl:g<w.heap.size)(hgg:g'=g∨w.heap.size≤g')(q:Chg [P.b,P.k,g] w w'):qAW (qAi col 4 w w') w' P (x.setK p e)∧Ext 6 col (qAi col 4 w w') w w':=by
 have F:qA8 (But col w 4) w w':=qNr q (by intro b G;simp at G;rcases G with rfl|rfl|rfl;exact .inr h.cb;exact .inl hK;exact .inl hg)
 have hp:∀c,(c=4∨c=6)→1≤c∧c≤6:=by omega
 have E:Ext 6 col (qAi col 4 w w') w w':=Ext.of_sameOn (P:=fun c=>c=4∨c=6) h.top F hp (by omega)
 have S:∀j,¬(j=4∨j=6)→qB0 j col (qAi col 4 w w') w w':=fun j I=>qB0.of_sameOn (P:=fun c=>c=4∨c=6) F I
 obtain⟨V,O⟩:=(S 7 (by omega)).blk h.blk h.cW
 obtain⟨Y,J⟩:=(S 3 (by omega)).blk h.cnt h.cc
 obtain⟨cur,l⟩:=hk'.blkg
 refine⟨⟨V,O,hp',by rw[qAd (Blk.lt h.pw)];exact h.cb,fun k N q=>?_,h.ssd.frame (S 1 (by omega)) hp',h.dsk.frame (S 2 (by omega)) hp',Y,J,⟨g',cap',hk',by rw[qAd hKl];exact hK,?_⟩,h.lock.frame (S 5 (by omega)),E.top⟩,E⟩
 · by_cases f:k<w.heap.size
   · rw[qAd f]at q
     exact h.one k f q
   · rw[qAk (by omega) N]at q
     omega
 · rcases hgg with rfl|hge
   · rw[qAd hgl];exact hg
   · exact qAk hge l.lt
end
structure Wd.ok (x:Wd)(m:Nat):Prop where
 sl:qD9 (x.n:Int)=true
 s:x.sd.ok (gSize x.n) m
 d:x.dk.ok m
 ep:0<x.eps.length
 el:x.eps.length≤m+1
 er:qG3 x.eps
 en:(qAl x.eps).toNat≤m+1
 cv:x.c.value.toNat≤m
 cb:x.c.boots.toNat≤m
theorem Wd.ok.size {x:Wd}{m:Nat}(h:x.ok m):0<gSize x.n∧gSize x.n≤60000:=by
 have:=qAo h.sl
 unfold gSize;omega
theorem Wd.ok.pw {x:Wd}{m:Nat}(h:x.ok m):x.p.ok m:=h.s.pw
def qHd (m:Nat)(col:Nat→Nat)(w:World)(P:qAU)(x:Wd)(w':World):Prop:=∃col',qAW col' w' P x∧Ext m col col' w w'
section
variable {col:Nat→Nat} {w:World} {P:qAU} {x:Wd} {m:Nat}
theorem qAW.sdAt (h:qAW col w P x):qGP (But col w 1) w P.s P.b x.sd:=h.ssd.at h.cb
theorem qAW.dkAt (h:qAW col w P x):qJH (But col w 2) w P.d P.b x.dk:=h.dsk.at h.cb
theorem qS9 {i:Nat}{a:Nat}(hi:i=1∨i=2)(hl:a<w.heap.size)(h0:col a=0):But col w i a:=⟨hl,by rw[h0];omega⟩
def Wd.sWrite (x:Wd)(y:Wr):Wd:=x.setS (x.sd.wrote x.p.spend.1 x.p.spend.2 y)
def Wd.sBarrier (x:Wd):Wd:=x.setS (x.sd.barred x.p.spend.1 x.p.spend.2)
def Wd.sCrash (x:Wd)(ks:List Bool):Wd:=x.setS { x.sd with lasts:=qBy x.sd.lasts x.sd.waits (isK ks) x.sd.waits.length,waits:=[] }
def Wd.sSmash (x:Wd)(y:Wr):Wd:=x.setS { x.sd with lasts:=qBV x.sd.snap y,waits:=[] }
def Wd.sBack (x:Wd)(bs:List UInt8):Wd:=x.setS { x.sd with lasts:=bs,waits:=[] }
theorem qEK (h:qAW col w P x)(ok:x.ok m)(hm:m≤100000)(off:Int)(u:Value)(bs:List UInt8)(hin:inB (gSize x.n) (off,bs))(hs:Sl w u bs.length (qA1 bs))(hu:∀a c,u= .slice (some a) bs.length c→0<(qA1 bs).length→col a.block=0) :
 Calls prog 161 #[.pointer (some ⟨P.s,0,none⟩),.int .i64 off,u] w fun e w'=>e= .returned (.bool x.p.spend.1)∧qHd 6 col w P (x.sWrite (off,bs)) w':=by
 refine(qNj _ P.s P.b x.sd (gSize x.n) m (by have:=ok.size;omega) hm w h.sdAt ok.s off u bs hin hs (fun a c e hl=>qS9 (.inl rfl) (hs.low a c e hl) (hu a c e hl)) x.p.spend.1 x.p.spend.2 rfl).mono ?_
 rintro e w' ⟨rfl,j,f⟩
 exact⟨rfl,_,h.stepS j f⟩
theorem qHe (h:qAW col w P x)(ok:x.ok m)(hm:m≤99999):Calls prog 175 #[.pointer (some ⟨P.s,0,none⟩)] w fun e w'=>e= .returned (.bool x.p.spend.1)∧qHd 6 col w P x.sBarrier w':=by
 refine(qKc _ P.s P.b x.sd (gSize x.n) m ok.size.1 (by have:=ok.size;omega) hm w h.sdAt ok.s x.p.spend.1 x.p.spend.2 rfl).mono ?_
 rintro e w' ⟨rfl,f,c⟩
 exact⟨rfl,_,h.stepS f c⟩
theorem qNs (h:qAW col w P x)(ok:x.ok m)(hm:m≤100000)(v:Value)(ks:List Bool)(kl:ks.length≤100000)(hks:Sl w v ks.length (qBe ks))(hu:∀a c,v= .slice (some a) ks.length c→0<(qBe ks).length→col a.block=0) :
 Calls prog 82 #[.pointer (some ⟨P.s,0,none⟩),v] w fun e w'=>e= .returned (.tuple #[])∧qHd 6 col w P (x.sCrash ks) w':=by
 refine(qNl _ P.s P.b x.sd (gSize x.n) m ok.size.1 (by have:=ok.size;omega) hm w h.sdAt ok.s v ks kl hks (fun a c e hl=>qS9 (.inl rfl) (hks.low a c e hl) (hu a c e hl))).mono ?_
 rintro e w' ⟨rfl,j,f⟩
 exact⟨rfl,_,h.stepS j f⟩
theorem qPi (h:qAW col w P x)(ok:x.ok m)(hm:m≤100000)(o:Nat)(u:Value)(bs:List UInt8)(hin:inB (gSize x.n) ((o:Int),bs))(hs:Sl w u bs.length (qA1 bs))(hu:∀a c,u= .slice (some a) bs.length c→0<(qA1 bs).length→col a.block=0) :
 Calls prog 28 #[.pointer (some ⟨P.s,0,none⟩),.int .i64 o,u] w fun e w'=>e= .returned (.bool true)∧qHd 6 col w P (x.sSmash ((o:Int),bs)) w':=by
 refine(qNm _ P.s P.b x.sd (gSize x.n) m ok.size.1 (by have:=ok.size;omega) hm w h.sdAt ok.s o u bs hin hs (fun a c e hl=>qS9 (.inl rfl) (hs.low a c e hl) (hu a c e hl))).mono ?_
 rintro e w' ⟨rfl,j,f⟩
 exact⟨rfl,_,h.stepS j f⟩
theorem qQW (h:qAW col w P x)(ok:x.ok m)(u:Value)(bs:List UInt8)(hb:bs.length=gSize x.n)(hs:Sl w u bs.length (qA1 bs)) :
 Calls prog 57 #[.pointer (some ⟨P.s,0,none⟩),u] w fun e w'=>e= .returned (.bool true)∧qHd 6 col w P (x.sBack bs) w':=by
 refine(qPf _ P.s P.b x.sd (gSize x.n) m ok.size.1 (by have:=ok.size;omega) w h.sdAt ok.s u bs hb hs).mono ?_
 rintro e w' ⟨rfl,f,c,_⟩
 exact⟨rfl,_,h.stepS f c⟩
def Wd.dWrite (x:Wd)(y:Wr):Wd:=x.setD (x.dk.wrote x.p.spend.1 x.p.spend.2 y)
def Wd.dBarrier (x:Wd):Wd:=x.setD (x.dk.barred x.p.spend.1 x.p.spend.2)
def Wd.dCrash (x:Wd)(ks:List Bool):Wd:=x.setD (x.dk.settled (isK ks))
def Wd.dRefuse (x:Wd)(q:Bool):Wd:=x.setD { x.dk with no:=q }
theorem qNt (h:qAW col w P x)(ok:x.ok m)(hm:m≤100000)(hno:x.d.no=false)(off:Int)(u:Value)(bs:List UInt8)(hn:isD off=true)(hl:bs.length=32)(hs:Sl w u bs.length (qA1 bs))(hu:∀a c,u= .slice (some a) bs.length c→0<(qA1 bs).length→col a.block=0) :
 Calls prog 148 #[.pointer (some ⟨P.d,0,none⟩),.int .i64 off,u] w fun e w'=>e= .returned (.bool x.p.spend.1)∧qHd 6 col w P (x.dWrite (off,bs)) w':=by
 refine(qM1 _ P.d P.b x.dk m hm w h.dkAt ok.d hno off u bs hn hl hs (fun a c e j=>qS9 (.inr rfl) (hs.low a c e j) (hu a c e j)) x.p.spend.1 x.p.spend.2 rfl).mono ?_
 rintro e w' ⟨rfl,l,f⟩
 exact⟨rfl,_,h.stepD l f⟩
theorem qIX (h:qAW col w P x)(ok:x.ok m)(hno:x.d.no=true)(off:Int)(a:Option Addr)(c:Nat)(hn:isD off=true) :
 Calls prog 148 #[.pointer (some ⟨P.d,0,none⟩),.int .i64 off,.slice a 32 c] w fun e w'=>e= .returned (.bool false)∧w=w':=
 qGS _ P.d P.b x.dk m w h.dkAt ok.d off a 32 c (by omega) hn rfl hno
theorem qGe (h:qAW col w P x)(ok:x.ok m)(hm:m≤99999):Calls prog 112 #[.pointer (some ⟨P.d,0,none⟩)] w fun e w'=>e= .returned (.bool x.p.spend.1)∧qHd 6 col w P x.dBarrier w':=by
 refine(qIO _ P.d P.b x.dk m hm w h.dkAt ok.d x.p.spend.1 x.p.spend.2 rfl).mono ?_
 rintro e w' ⟨rfl,f,c⟩
 exact⟨rfl,_,h.stepD f c⟩
theorem qNu (h:qAW col w P x)(ok:x.ok m)(hm:m≤100000)(v:Value)(ks:List Bool)(kl:ks.length≤100000)(hks:Sl w v ks.length (qBe ks))(hu:∀a c,v= .slice (some a) ks.length c→0<(qBe ks).length→col a.block=0) :
 Calls prog 83 #[.pointer (some ⟨P.d,0,none⟩),v] w fun e w'=>e= .returned (.tuple #[])∧qHd 6 col w P (x.dCrash ks) w':=by
 refine(qM2 _ P.d P.b x.dk m hm w h.dkAt ok.d v ks kl hks (fun a c e hl=>qS9 (.inr rfl) (hks.low a c e hl) (hu a c e hl))).mono ?_
 rintro e w' ⟨rfl,j,f⟩
 exact⟨rfl,_,h.stepD j f⟩
theorem qM6 (h:qAW col w P x)(ok:x.ok m)(q:Bool):Calls prog 31 #[.pointer (some ⟨P.d,0,none⟩),.bool q] w fun e w'=>e= .returned (.tuple #[])∧qHd 6 col w P (x.dRefuse q) w':=by
 refine(qKe _ P.d P.b x.dk m w h.dkAt ok.d q).mono ?_
 rintro e w' ⟨rfl,f,c⟩
 exact⟨rfl,_,h.stepD f c⟩
theorem qPj (h:qAW col w P x)(ok:x.ok m)(hm:m≤100000)(o:Nat)(ho:o<32)(hg:x.p.gone=false):Calls prog 119 #[.pointer (some ⟨P.d,0,none⟩),.int .i64 o] w fun e w'=>∃v,e= .returned (.tuple #[v,.bool true])∧w'.ownsRow w.heap.size 5 1 v 32 (qA1 (x.dk.read o))∧qA4 w w':=
 qNn _ P.d P.b x.dk m hm w h.dkAt ok.d o ho hg
def Wd.bump (x:Wd):Wd:=x.setC x.p.spend.2 (if x.p.spend.1 then x.c.bump else x.c)
def Wd.boot (x:Wd):Wd:=x.setC x.p.spend.2 (if x.p.spend.1 then x.c.boot else x.c)
theorem qAW.cb_ne (h:qAW col w P x):P.c≠P.b:=fun e=>by have:=h.cb;have:=h.cc;rw[e]at this;omega
theorem Wd.ok.big (ok:x.ok m)(hm:m≤100000):x.p.ok 9223372036854775806:=qE9 ok.pw (by omega)
theorem qQX (h:qAW col w P x)(ok:x.ok m)(hm:m≤100000):Calls prog 177 #[.pointer (some ⟨P.c,0,none⟩)] w fun e w'=>e= .returned (.bool x.p.spend.1)∧qHd 6 col w P x.bump w':=by
 refine(qLX P.c P.b x.p x.p.spend.2 x.p.spend.1 x.c w h.cnt h.pw h.cb_ne (ok.big hm) rfl).mono ?_
 rintro e w' ⟨rfl,f,l,j⟩
 exact⟨rfl,_,h.stepC l f j⟩
theorem qQY (h:qAW col w P x)(ok:x.ok m)(hm:m≤100000):Calls prog 43 #[.pointer (some ⟨P.c,0,none⟩)] w fun e w'=>e= .returned (.bool x.p.spend.1)∧qHd 6 col w P x.boot w':=by
 refine(qLY P.c P.b x.p x.p.spend.2 x.p.spend.1 x.c w h.cnt h.pw h.cb_ne (ok.big hm) rfl).mono ?_
 rintro e w' ⟨rfl,f,l,j⟩
 exact⟨rfl,_,h.stepC l f j⟩
theorem qFO (h:qAW col w P x):Calls prog 42 #[.pointer (some ⟨P.b,0,none⟩)] w fun e w'=>e= .returned (.bool (!x.p.gone))∧w=w':=qD2 P.b x.p w h.pw
theorem qQZ (h:qAW col w P x)(n:Int):Calls prog 26 #[.pointer (some ⟨P.b,0,none⟩),.int .i64 n] w fun e w'=>e= .returned (.tuple #[])∧qHd 6 col w P (x.setP (x.p.setFuse n)) w':=by
 refine(qLM P.b x.p n w h.pw).mono ?_
 rintro e w' ⟨rfl,c,f⟩
 exact⟨rfl,_,h.stepP c (Chg.of_grown f)⟩
theorem qPk (h:qAW col w P x):Calls prog 84 #[.pointer (some ⟨P.b,0,none⟩)] w fun e w'=>e= .returned (.tuple #[])∧qHd 6 col w P (x.setP x.p.back) w':=by
 refine(qLN P.b x.p w h.pw).mono ?_
 rintro e w' ⟨rfl,c,f⟩
 exact⟨rfl,_,h.stepP c (Chg.of_grown f)⟩
def Wd.kAdd (x:Wd):Wd:=x.setK x.p.spend.2 (qPc x.p.spend.1 x.eps)
def Wd.kErase (x:Wd)(b:BitVec 32):Wd:=x.setK x.p.spend.2 (qQi x.p.spend.1 x.eps b)
theorem qR0 (h:qAW col w P x)(ok:x.ok m)(hm:m≤80000):Calls prog 125 #[.pointer (some ⟨P.k,0,none⟩)] w fun e w'=>e= .returned (.bool x.p.spend.1)∧qHd 6 col w P x.kAdd w':=by
 obtain⟨g,cap,X,G,l⟩:=h.keys
 obtain⟨cur,c⟩:=X.blkg
 refine(qPd P.k P.b g x.seed x.eps cap x.p x.p.spend.2 x.p.spend.1 ok.ep (by have:=ok.el;omega) w X h.pw (ok.big (by omega)) rfl).mono ?_
 rintro e w' ⟨g',f,rfl,j,q,I,F⟩
 exact⟨rfl,_,h.stepK j q G X.blk.lt l c.lt I F⟩
theorem qNv (h:qAW col w P x)(ok:x.ok m)(hm:m≤80000)(b:BitVec 32):Calls prog 114 #[.pointer (some ⟨P.k,0,none⟩),W b] w fun e w'=>e= .returned (.bool x.p.spend.1)∧qHd 6 col w P (x.kErase b) w':=by
 obtain⟨g,cap,X,G,l⟩:=h.keys
 obtain⟨cur,c⟩:=X.blkg
 refine(qNf P.k P.b g x.seed x.eps cap b x.p x.p.spend.2 x.p.spend.1 ok.ep (by have:=ok.el;omega) w X h.pw (ok.big (by omega)) rfl).mono ?_
 rintro e w' ⟨g',f,rfl,j,q,I,F⟩
 exact⟨rfl,_,h.stepK j q G X.blk.lt l c.lt I F⟩
theorem qLc (h:qAW col w P x)(ok:x.ok m)(hm:m≤80000):Calls prog 115 #[.pointer (some ⟨P.k,0,none⟩)] w fun e w'=>e= .returned (W (qAl x.eps))∧qA4 w w':=by
 obtain⟨g,cap,X,c,f⟩:=h.keys
 exact qKa P.k P.b g x.seed x.eps cap ok.ep (by have:=ok.el;omega) w X
theorem qIY (h:qAW col w P x)(ok:x.ok m)(hm:m≤80000)(e:BitVec 32):Calls prog 138 #[.pointer (some ⟨P.k,0,none⟩),W e] w fun r w'=>r= .returned (.tuple #[Pr (qFd x.seed x.eps e),.bool (x.eps.contains e)])∧qA4 w w':=by
 obtain⟨g,cap,X,c,f⟩:=h.keys
 exact qQO P.k P.b g x.seed x.eps cap e ok.ep (by have:=ok.el;omega) w X
theorem qNw (h:qAW col w P x)(ok:x.ok m)(hm:m≤80000):Calls prog 22 #[.pointer (some ⟨P.k,0,none⟩)] w fun r w'=>∃v,r= .returned v∧w'.ownsRow w.heap.size 94 1 v x.eps.length (qBd x.eps)∧qA4 w w':=by
 obtain⟨g,cap,X,c,f⟩:=h.keys
 exact qH8 P.k P.b g x.seed x.eps cap ok.ep (by have:=ok.el;omega) w X
end
theorem qHR:SlT prog 81 32 1 24 (.slice none 0 0):=SlT.mk' underlying81 (by kernel_rfl) rfl (by omega)
theorem qR1:SlT prog 158 3 1 8 (.int .i64 0):=SlT.mk' underlying158 (by kernel_rfl) rfl (by omega)
def qPl (v:Value):Option (List (List UInt8))→Value
 | none=>.tuple #[.slice none 0 0,.bool false]
 | some _=>.tuple #[v,.bool true]
theorem qDA (vb vs:Value)(b:List UInt8)(zs:List Int)(hl:b.length≤4000)(hn:zs.length≤100)(w:World)(hb:Sl w vb b.length (qA1 b))(hs:Sl w vs zs.length (qBg zs)) :
 Calls prog 145 #[vb,vs] w fun e w'=>qA4 w w'∧∃v,e= .returned (qPl v (qFS b zs))∧∀rows,qFS b zs=some rows→qBx 32 5 w' w.heap.size v rows:=by
 have c:=qJO (P:=prog) w 3 underlying158 hs
 obtain⟨sa,sc,a6⟩:=hs.len
 subst a6
 have a8:(w.alloc (.cells #[] 32)).ownsRow w.heap.size 32 1 (.slice (some ⟨w.heap.size,0,none⟩) 0 0) 0 []:=
  ⟨rfl,.inr ⟨w.heap.size,0,#[],rfl,Nat.le_refl _,Blk.new _ _ _,Nat.le_refl _,Nat.zero_le _,rfl,rfl⟩⟩
 have n0:(zs.length:Int)≤100:=by omega
 clear c
 go_enter func145,ntmps145
 go_wp2_with fail
 go_loopw [12,0,6,8] (fun i vr rs _ wr=>∃k:Nat,k≤zs.length∧i= .int .i64 k∧∃(I:List UInt8) (N:List (List UInt8)),I.length≤b.length∧N.length=k∧Sl w vr I.length (qA1 I) ∧
  qBx 32 5 wr w.heap.size rs N∧qFS b zs=(qFS I (zs.drop k)).map (N++ ·)∧Below w.heap.size w wr) (fun i _ _ _ _=>zs.length - (intOf i).toNat)
 case atStart=>exact⟨0,by omega,rfl,b,[],Nat.le_refl _,rfl,hb,qBx.empty a8,by simp,qal _⟩
 case round =>
  obtain⟨k,hk,rfl,I,N,b4,Y,V,a2,G,j⟩:=hrel
  have a5:=j.size
  by_cases O:k<zs.length
  · obtain⟨sb,so,sc,he,_,_,lb,xs⟩:=hs.int (by omega)
    cases he
    have c0:=qDL j (xs k O) lb
    have n1:(k:Int)<(zs.length:Int):=by omega
    have n2:(0:Int)≤(k:Int):=by omega
    have n3:(I.length:Int)≤4000:=by omega
    have c:=fun wx (hk:qA4 w wx)=>qJO (P:=prog) wx 3 underlying32 (V.kept hk)
    have HC:=qh G
    have HX:=qh xs
    have HS:=qh hs
    have HP:=qh Y
    clear G xs hs Y
    by_cases h1:zs[k]<0
    · have f:=qIK O HC.out (by omega)
      clear c
      go_wp2
      go_ret2
      exact⟨j,.slice none 0 0,by rw[f];rfl,fun rows h=>by rw[f]at h;cases h⟩
    obtain⟨z,hz⟩:∃z:Nat,zs[k]=(z:Int):=⟨zs[k].toNat,by omega⟩
    rw[hz]at c0
    have hl:=c wr j
    by_cases h2:I.length<z
    · have f:=qIK O HC.out (by omega)
      have n4:(I.length:Int)<(z:Int):=by omega
      clear c hz h1
      go_wp2
      go_ret2
      exact⟨j,.slice none 0 0,by rw[f];rfl,fun rows h=>by rw[f]at h;cases h⟩
    · have q:=qN7 O HC.out (by omega) (by omega)
      rw[hz,Int.toNat_natCast]at q
      have n4:(z:Int)≤(I.length:Int):=by omega
      have n5:(0:Int)≤(z:Int):=by omega
      obtain⟨v1,b3,s1⟩:=qS6 (P:=prog) qAx V (k:=z) (by omega) .i64
      obtain⟨v2,b6,s2⟩:=qL1 (P:=prog) qAx V (k:=z) (by omega) .i64
      obtain⟨row,J⟩:∃row,row=I.take z:=⟨_,rfl⟩
      rw[←J]at s1 q
      have b5:row.length≤4000:=by rw[J,List.length_take];omega
      obtain⟨us,u1,u2,u3,u4⟩:=a2
      have a7:=qh q
      clear c hz h1 q J
      go_wp2_with fail
      refine(qAZ v1 row (by omega) _ (s1.kept j)).mono ?_
      rintro e w1 ⟨u,rfl,hu,F⟩
      obtain⟨ua,uc,a4⟩:=(Sl.of_own hu).len
      subst a4
      have H1:=qh u1
      clear hl c0 u1
      go_wp2_with (at_builtin;refine qAw qHR rfl (by rfl) (by rfl) (by rfl) ((qA5 u2 F).alloc _) (Sl.one _ _ _) (by rfl) (fun x hx=>by rw[List.mem_singleton.1 hx];exact qD5 hu) (by unfold maxLen;have:=HP.out;omega) (by have:=HP.out;omega) (by simp;have:=F.size;omega) ?_;intro v3 w2 Z a1 a9)
      have a3:qA4 w w2:=qAF ((qA4.of j F).alloc (by have:=F.size;omega) _) ((qA5 u2 F).alloc _) a1 (by simp;have:=F.size;omega)
      refine⟨⟨k+1,by omega,by go_num,I.drop z,N++ [row],by rw[List.length_drop];omega,by rw[List.length_append,HP.out];rfl,s2,?_,a7.out,a3⟩,by simp[intOf];omega⟩
      have a0:=(Below.refl w1.heap.size w1).alloc qle (.cells #[.slice ua row.length uc] 32)
      exact qBx.snoc H1.out ((qA5 u2 F).alloc _) u3 (fun i bs x hi hx=>qA5 (qA5 (u4 i bs x hi hx) F) a0) (qAh (qA5 hu a0) a5) (by decide) a1 Z
  · have:k=zs.length:=by omega
    subst this
    have c:=fun wx (hk:qA4 w wx)=>qJO (P:=prog) wx 3 underlying32 (V.kept hk)
    have hl:=c wr j
    have l:=qP9 G
    clear c G
    by_cases h0:I= []
    · rw[if_pos h0]at l
      have n3:(I.length:Int)=0:=by rw[h0];rfl
      rw[n3]at hl
      have HE:=qh l
      clear l h0 n3
      go_wp2
      go_ret2
      exact⟨j,_,by rw[HE.out];rfl,fun rows h=>by rw[HE.out]at h;cases h;exact a2⟩
    · rw[if_neg h0]at l
      have n3:(0:Int)<(I.length:Int):=by have:=List.length_pos_iff.2 h0;omega
      have HE:=qh l
      clear l h0
      go_wp2
      go_ret2
      exact⟨j,.slice none 0 0,by rw[HE.out];rfl,fun rows h=>by rw[HE.out]at h;cases h⟩
end Go.Proofs.YtdlgihbpiakebaaGreat
