import Derived.Test.YtdlgihbpiakebaaGreatMk05
import Derived.Test.YtdlgihbpiakebaaGreatMk06
import Derived.Test.YtdlgihbpiakebaaGreatMk07
import Derived.Test.YtdlgihbpiakebaaGreatMk08
import Derived.Test.YtdlgihbpiakebaaGreatMk09
import Derived.Test.YtdlgihbpiakebaaGreatMk15
import Derived.Test.YtdlgihbpiakebaaGreatMk17
import Derived.Test.YtdlgihbpiakebaaGreatMk24
import Derived.Test.YtdlgihbpiakebaaGreatMk26
set_option maxRecDepth 100000
set_option maxHeartbeats 4000000
namespace Go.Proofs.YtdlgihbpiakebaaGreat
open Go Go.RowKit Tryz
abbrev Wr:=Int×List UInt8
def qBH:List Wr→List Value→List Value
 | x::l,u::us=>.int .i64 x.1::u::qBH l us
 | _,_=>[]
theorem qEA:∀(l:List Wr) (us:List Value),us.length=l.length→(qBH l us).length=l.length*2
 | [],_,_=>by simp[qBH]
 | x::l,[],h=>by simp at h
 | x::l,u::us,h=>by
  have:=qEA l us (by simpa using h)
  simp[qBH,this];omega
theorem qH9:∀(l:List Wr) (us:List Value) (i:Nat) (x:Wr) (u:Value),l[i]? = some x→us[i]? = some u→(qBH l us)[i*2]? = some (.int .i64 x.1)∧(qBH l us)[i*2+1]? = some u
 | [],_,i,x,u,h,_=>by simp at h
 | _::_,[],i,x,u,_,h=>by simp at h
 | y::l,v::us,0,x,u,h,k=>by
  simp at h k
  subst h;subst k
  simp[qBH]
 | y::l,v::us,i+1,x,u,h,k=>by
  have:=qH9 l us i x u (by simpa using h) (by simpa using k)
  rw[show(i+1)*2=i*2+1+1 by omega]
  simpa [qBH] using this
theorem qD6:∀(l:List Wr) (us:List Value) (x:Wr) (u:Value),us.length=l.length→qBH (l++ [x]) (us++ [u])=qBH l us++ [.int .i64 x.1,u]
 | [],[],x,u,_=>by simp[qBH]
 | [],_::_,x,u,h=>by simp at h
 | _::_,[],x,u,h=>by simp at h
 | y::l,v::us,x,u,h=>by
  have:=qD6 l us x u (by simpa using h)
  simp[qBH,this]
theorem qAq {w:World}{B n size g:Nat}{e:TypeId}{v:Value}{xs:List Value}(h:w.ownsRow B e size v n xs)(hg:v.ownBlock=some g):∃cur,Blk w g cur e:=by
 rcases h.2 with ⟨rfl,_⟩|⟨g',cap,cur,rfl,_,hb,_⟩
 · cases hg
 · cases hg;exact⟨cur,hb⟩
theorem qAO {w w':World}{bs:List Nat}{B n size:Nat}{e:TypeId}{v:Value}{xs:List Value}(h:w.ownsRow B e size v n xs)(hc:Chg bs w w')(hn:∀g,v.ownBlock=some g→g∉bs):w'.ownsRow B e size v n xs:=by
 refine⟨h.1,?_⟩
 rcases h.2 with h0|⟨g',cap',cur,rfl,hB,hb,r⟩
 · exact .inl h0
 · exact .inr ⟨g',cap',cur,rfl,hB,hc.blk hb (hn g' rfl),r⟩
theorem qAp {w:World}{B n size g:Nat}{e:TypeId}{v:Value}{xs:List Value}(h:w.ownsRow B e size v n xs)(hg:v.ownBlock=some g):g<w.heap.size:=by
 obtain⟨c,f⟩:=qAq h hg
 exact f.lt
theorem qAN {w:World}{B n size g:Nat}{e:TypeId}{v:Value}{xs:List Value}(h:w.ownsRow B e size v n xs)(hg:v.ownBlock=some g):B≤g:=by
 rcases h.2 with ⟨rfl,_⟩|⟨g',cap,cur,rfl,hB,hb,_⟩
 · cases hg
 · cases hg;exact hB
structure qB3 (w:World)(v:Value)(l:List Wr)(us:List Value):Prop where
 row:w.ownsRow 0 133 2 v l.length (qBH l us)
 len:us.length=l.length
 each:∀(i:Nat) (x:Wr) (u:Value),l[i]? = some x→us[i]? = some u→w.ownsRow 0 5 1 u x.2.length (qA1 x.2)
theorem qB3.nil (w:World):qB3 w (.slice none 0 0) [] []:=⟨⟨rfl,.inl ⟨rfl,rfl⟩⟩,rfl,by simp⟩
theorem qB3.chg {w w':World}{v:Value}{l:List Wr}{us:List Value}{bs:List Nat}(h:qB3 w v l us)(hc:Chg bs w w')(h1:∀g,v.ownBlock=some g→g∉bs)(h2:∀u∈us,∀g,u.ownBlock=some g→g∉bs):qB3 w' v l us:=
 ⟨qAO h.row hc h1,h.len,fun i x u f c=>qAO (h.each i x u f c) hc (h2 u (List.mem_of_getElem? c))⟩
theorem qB3.kept {w w':World}{v:Value}{l:List Wr}{us:List Value}(h:qB3 w v l us)(hk:qA4 w w'):qB3 w' v l us:=
 h.chg (bs:=[]) (Chg.of_kept hk) (by simp) (by simp)
theorem qB3.blk {w:World}{v:Value}{l:List Wr}{us:List Value}(h:qB3 w v l us){u:Value}(hu:u∈us){g:Nat}(hg:u.ownBlock=some g):∃cur,Blk w g cur 5:=by
 obtain⟨i,f⟩:=List.getElem?_of_mem hu
 have c:i<us.length:=(List.getElem?_eq_some_iff.1 f).1
 rw[h.len]at c
 exact qAq (h.each i _ u (List.getElem?_eq_getElem c) f) hg
theorem qB3.get {w:World}{v:Value}{l:List Wr}{us:List Value}(h:qB3 w v l us)(i:Nat)(hi:i<l.length):∃g cap u,v= .slice (some ⟨g,0,none⟩) l.length cap∧us[i]? = some u∧w.cell? ⟨g,i*2,none⟩=some (.int .i64 l[i].1)∧w.cell? ⟨g,i*2+1,none⟩=some u∧Sl w u l[i].2.length (qA1 l[i].2):=by
 have f:i<us.length:=by rw[h.len];exact hi
 obtain⟨F,G⟩:=qH9 l us i l[i] us[i] (List.getElem?_eq_getElem hi) (List.getElem?_eq_getElem f)
 obtain⟨b,off,cap,e,_,_,_,j⟩:=(Sl.of_own h.row).at (by rw[qEA l us h.len];omega)
 have c:∃g,v= .slice (some ⟨g,0,none⟩) l.length cap∧b=g∧off=0:=by
  rcases h.row.2 with ⟨_,h0⟩|⟨g',cap',cur,e',_⟩
  · omega
  · rw[e]at e'
    cases e'
    exact⟨b,e,rfl,rfl⟩
 obtain⟨g,q,rfl,rfl⟩:=c
 refine⟨b,cap,us[i],q,List.getElem?_eq_getElem f,?_,?_,Sl.of_own (h.each i _ _ (List.getElem?_eq_getElem hi) (List.getElem?_eq_getElem f))⟩
 · have:=j _ _ F;rwa [Nat.zero_add]at this
 · have:=j _ _ G;rwa [Nat.zero_add]at this
theorem qB3.slice {w:World}{v:Value}{l:List Wr}{us:List Value}(h:qB3 w v l us):∃a cap,v= .slice a l.length cap:=(Sl.of_own h.row).len
structure qA8 (A:Nat→Prop)(w w':World):Prop where
 os:w'.os=w.os
 tape:w'.tape=w.tape
 output:w'.output=w.output
 size:w.heap.size≤w'.heap.size
 block:∀k,k<w.heap.size→A k→w'.heap[k]? = w.heap[k]?
section
variable {A:Nat→Prop} {w w' w'':World}
theorem qA8.refl (w:World):qA8 A w w:=⟨rfl,rfl,rfl,Nat.le_refl _,fun _ _ _=>rfl⟩
theorem qA8.trans (h:qA8 A w w')(k:qA8 A w' w''):qA8 A w w'':=
 ⟨k.os.trans h.os,k.tape.trans h.tape,k.output.trans h.output,Nat.le_trans h.size k.size,fun i c f=>(k.block i (Nat.lt_of_lt_of_le c h.size) f).trans (h.block i c f)⟩
theorem qA8.of_kept (h:qA4 w w'):qA8 A w w':=⟨h.os,h.tape,h.output,h.size,fun k c _=>h.block k c⟩
theorem qA8.of_chg {bs:List Nat}(h:Chg bs w w')(hn:∀b∈bs,¬A b):qA8 A w w':=⟨h.os,h.tape,h.output,h.size,fun k j c=>h.block k j fun f=>hn k f c⟩
theorem qA8.sl {v:Value}{n:Nat}{cs:List Value}(h:qA8 A w w')(hs:Sl w v n cs)(ha:∀a c,v= .slice (some a) n c→0<cs.length→A a.block):Sl w' v n cs:=by
 rcases hs with hs|⟨a,cap,rfl,h1,h2,h3⟩
 · exact .inl hs
 · refine .inr ⟨a,cap,rfl,h1,h2,fun j u q=>?_⟩
   have e:(a.add j).block=a.block:=by unfold Addr.add;split<;>rfl
   have f:=h3 j u q
   have l:(a.add j).block<w.heap.size:=World.block_lt_of_cell? w _ f
   have F:=ha a cap rfl (by have:=(List.getElem?_eq_some_iff.1 q).1;omega)
   unfold World.cell? at f ⊢
   rw[h.block _ l (by rw[e];exact F)]
   exact f
end
structure Ext (m:Nat)(col col':Nat→Nat)(w w':World):Prop where
 os:w'.os=w.os
 tape:w'.tape=w.tape
 output:w'.output=w.output
 size:w.heap.size≤w'.heap.size
 old:∀k,k<w.heap.size→col' k=col k
 new:∀k,w.heap.size≤k→col' k≤m
 top:∀k,w'.heap.size≤k→col' k=0
 block:∀k,k<w.heap.size→(col k=0∨m<col k)→w'.heap[k]? = w.heap[k]?
def Top (col:Nat→Nat)(w:World):Prop:=∀k,w.heap.size≤k→col k=0
section
variable {m n:Nat} {col col' col'':Nat→Nat} {w w' w'':World}
theorem Ext.refl (h:Top col w):Ext m col col w w:=⟨rfl,rfl,rfl,Nat.le_refl _,fun _ _=>rfl,fun k c=>by rw[h k c];omega,h,fun _ _ _=>rfl⟩
theorem Ext.trans (h:Ext m col col' w w')(k:Ext m col' col'' w' w''):Ext m col col'' w w'':=
 ⟨k.os.trans h.os,k.tape.trans h.tape,k.output.trans h.output,Nat.le_trans h.size k.size,
  fun i c=>(k.old i (Nat.lt_of_lt_of_le c h.size)).trans (h.old i c),
  fun i c=>by
   by_cases j:i<w'.heap.size
   · rw[k.old i j];exact h.new i c
   · exact k.new i (by omega),
  k.top,
  fun i c f=>(k.block i (Nat.lt_of_lt_of_le c h.size) (by rw[h.old i c];exact f)).trans (h.block i c f)⟩
theorem Ext.mono (h:Ext m col col' w w')(hm:m≤n):Ext n col col' w w':=
 ⟨h.os,h.tape,h.output,h.size,h.old,fun k c=>Nat.le_trans (h.new k c) hm,h.top,fun k c f=>h.block k c (by omega)⟩
theorem Ext.kept (ht:Top col w)(h:qA4 w w'):Ext m col col w w':=
 ⟨h.os,h.tape,h.output,h.size,fun _ _=>rfl,fun k c=>by rw[ht k c];omega,fun k c=>ht k (Nat.le_trans h.size c),fun k c _=>h.block k c⟩
structure qB0 (i:Nat)(col col':Nat→Nat)(w w':World):Prop where
 size:w.heap.size≤w'.heap.size
 old:∀k,k<w.heap.size→col k=i→col' k=i
 block:∀k,k<w.heap.size→col k=i→w'.heap[k]? = w.heap[k]?
theorem Ext.same (h:Ext m col col' w w'){i:Nat}(hi:m<i):qB0 i col col' w w':=⟨h.size,fun k c f=>(h.old k c).trans f,fun k c f=>h.block k c (.inr (by omega))⟩
theorem qB0.kept (h:qA4 w w')(i:Nat):qB0 i col col w w':=⟨h.size,fun _ _ c=>c,fun k f _=>h.block k f⟩
theorem qB0.trans {i:Nat}(h:qB0 i col col' w w')(k:qB0 i col' col'' w' w''):qB0 i col col'' w w'':=
 ⟨Nat.le_trans h.size k.size,fun j c f=>k.old j (Nat.lt_of_lt_of_le c h.size) (h.old j c f),fun j c f=>(k.block j (Nat.lt_of_lt_of_le c h.size) (h.old j c f)).trans (h.block j c f)⟩
theorem qB0.chg {bs:List Nat}(h:Chg bs w w'){i:Nat}(hb:∀b∈bs,col b≠i):qB0 i col col w w':=⟨h.size,fun _ _ c=>c,fun k j c=>h.block k j fun f=>hb k f c⟩
theorem qB0.blk {i g:Nat}{cs:Array Value}{t:TypeId}(h:qB0 i col col' w w')(hb:Blk w g cs t)(hc:col g=i):Blk w' g cs t∧col' g=i:=⟨(h.block g hb.lt hc).trans hb,h.old g hb.lt hc⟩
theorem Ext.blk0 {g:Nat}{cs:Array Value}{t:TypeId}(h:Ext m col col' w w')(hb:Blk w g cs t)(hc:col g=0):Blk w' g cs t∧col' g=0:=⟨(h.block g hb.lt (.inl hc)).trans hb,(h.old g hb.lt).trans hc⟩
theorem Ext.cell0 {a:Addr}{v:Value}(h:Ext m col col' w w')(hc:w.cell? a=some v)(h0:col a.block=0):w'.cell? a=some v:=by
 have c:a.block<w.heap.size:=World.block_lt_of_cell? w _ hc
 unfold World.cell? at hc ⊢
 rw[h.block a.block c (.inl h0)]
 exact hc
theorem Ext.own0 {B n size:Nat}{e:TypeId}{v:Value}{xs:List Value}(h:Ext m col col' w w')(ho:w.ownsRow B e size v n xs)(h0:∀g,v.ownBlock=some g→col g=0):w'.ownsRow B e size v n xs:=by
 refine⟨ho.1,?_⟩
 rcases ho.2 with h1|⟨g',cap',cur,rfl,hB,hb,r⟩
 · exact .inl h1
 · exact .inr ⟨g',cap',cur,rfl,hB,(h.blk0 hb (h0 g' rfl)).1,r⟩
def qAi (col:Nat→Nat)(i:Nat)(w w':World)(k:Nat):Nat:=if w.heap.size≤k∧k<w'.heap.size then i else col k
theorem qAd {i k:Nat}(h:k<w.heap.size):qAi col i w w' k=col k:=by
 unfold qAi;rw[if_neg (by omega)]
theorem qAk {i k:Nat}(h:w.heap.size≤k)(h2:k<w'.heap.size):qAi col i w w' k=i:=by
 unfold qAi;rw[if_pos ⟨h,h2⟩]
theorem Ext.of_sameOn {P:Nat→Prop}{i:Nat}(ht:Top col w)(h:qA8 (fun k=>k<w.heap.size∧¬P (col k)) w w')(hp:∀c,P c→1≤c∧c≤m)(hi:i≤m):Ext m col (qAi col i w w') w w':=
 ⟨h.os,h.tape,h.output,h.size,fun k f=>qAd f,fun k f=>by
  unfold qAi
  split
  · exact hi
  · rw[ht k f];omega,fun k f=>by
  unfold qAi
  rw[if_neg (by omega)]
  exact ht k (Nat.le_trans h.size f),fun k f j=>h.block k f ⟨f,fun hn=>by have:=hp _ hn;omega⟩⟩
theorem qB0.of_sameOn {P:Nat→Prop}{i j:Nat}(h:qA8 (fun k=>k<w.heap.size∧¬P (col k)) w w')(hj:¬P j):qB0 j col (qAi col i w w') w w':=
 ⟨h.size,fun k c f=>by rw[qAd c];exact f,fun k c f=>h.block k c ⟨c,by rw[f];exact hj⟩⟩
end
theorem qB3.same {i:Nat}{col col':Nat→Nat}{w w':World}{v:Value}{l:List Wr}{us:List Value}(h:qB3 w v l us)(hs:qB0 i col col' w w')(h1:∀g,v.ownBlock=some g→col g=i)(h2:∀u∈us,∀g,u.ownBlock=some g→col g=i):qB3 w' v l us:=by
 have own:∀ {B n size:Nat} {e:TypeId} {v:Value} {xs:List Value},w.ownsRow B e size v n xs→(∀g,v.ownBlock=some g→col g=i)→w'.ownsRow B e size v n xs:=fun c q=>by
  refine⟨c.1,?_⟩
  rcases c.2 with h1|⟨g',cap',cur,rfl,hB,hb,r⟩
  · exact .inl h1
  · exact .inr ⟨g',cap',cur,rfl,hB,(hs.blk hb (q g' rfl)).1,r⟩
 exact⟨own h.row h1,h.len,fun i x u j f=>own (h.each i x u j f) (h2 u (List.mem_of_getElem? f))⟩
theorem qB0.own {i:Nat}{col col':Nat→Nat}{w w':World}{B n size:Nat}{e:TypeId}{v:Value}{xs:List Value}(hs:qB0 i col col' w w')(ho:w.ownsRow B e size v n xs)(h0:∀g,v.ownBlock=some g→col g=i):w'.ownsRow B e size v n xs:=by
 refine⟨ho.1,?_⟩
 rcases ho.2 with h1|⟨g',cap',cur,rfl,hB,hb,r⟩
 · exact .inl h1
 · exact .inr ⟨g',cap',cur,rfl,hB,(hs.blk hb (h0 g' rfl)).1,r⟩
def qBV (b:List UInt8)(x:Wr):List UInt8:=b.take x.1.toNat++x.2++b.drop (x.1.toNat+x.2.length)
def inB (n:Nat)(x:Wr):Prop:=0≤x.1∧x.1.toNat<n∧x.1.toNat+x.2.length≤n
theorem qBW (b:List UInt8)(x:Wr)(h:inB b.length x):(qBV b x).length=b.length:=by
 obtain⟨c,f⟩:=h
 simp[qBV];omega
def qB5 (b:List UInt8)(l:List Wr):List UInt8:=l.foldl qBV b
theorem qCr (b:List UInt8)(l:List Wr)(x:Wr):qB5 b (l++ [x])=qBV (qB5 b l) x:=by simp[qB5]
theorem qCg:∀(l:List Wr) (b:List UInt8),(∀x∈l,inB b.length x)→(qB5 b l).length=b.length
 | [],b,_=>rfl
 | x::l,b,h=>by
  have c:=qBW b x (h x (by simp))
  have:=qCg l (qBV b x) (fun y f=>by rw[c];exact h y (by simp[f]))
  show(qB5 (qBV b x) l).length=_
  rw[this,c]
def qBy (b:List UInt8)(l:List Wr)(is:Nat→Bool):Nat→List UInt8
 | 0=>b
 | k+1=>if is k then qBV (qBy b l is k) (l[k]?.getD (0,[])) else qBy b l is k
theorem qCD (b:List UInt8)(l:List Wr)(is:Nat→Bool)(h:∀x∈l,inB b.length x):∀k,k≤l.length→(qBy b l is k).length=b.length
 | 0,_=>rfl
 | k+1,hk=>by
  have ih:=qCD b l is h k (by omega)
  unfold qBy
  split
  · have c:l[k]?.getD (0,[])=l[k]:=by rw[List.getElem?_eq_getElem (by omega)];rfl
    rw[c,qBW _ _ (by rw[ih];exact h _ (List.getElem_mem _)),ih]
  · exact ih
theorem qEB (b:List UInt8)(l:List Wr):∀k,k≤l.length→qBy b l (fun _=>true) k=qB5 b (l.take k)
 | 0,_=>rfl
 | k+1,hk=>by
  unfold qBy
  rw[if_pos rfl,qEB b l k (by omega),List.take_succ_eq_append_getElem (by omega),qCr,List.getElem?_eq_getElem (by omega)]
  rfl
theorem qEC (b:List UInt8)(ex:List Value)(x:Wr)(n:Nat)(hn:n=b.length)(h:inB n x) :
 (qA1 b++ex).take x.1.toNat++(qA1 x.2).take (min x.2.length (n - x.1.toNat))++(qA1 b++ex).drop (x.1.toNat+min x.2.length (n - x.1.toNat))=qA1 (qBV b x)++ex:=by
 obtain⟨c,f⟩:=h
 subst hn
 rw[show min x.2.length (b.length - x.1.toNat)=x.2.length by omega]
 rw[List.take_of_length_le (l:=qA1 x.2) (by rw[qA7];omega),List.take_append_of_le_length (by rw[qA7];omega),List.drop_append_of_le_length (by rw[qA7];omega)]
 simp[qBV,qA1,List.map_take,List.map_drop]
structure Sd where
 p:Pw
 lasts:List UInt8
 waits:List Wr
 trace:List Wr
def Sd.snap (s:Sd):List UInt8:=qB5 s.lasts s.waits
structure Sd.ok (s:Sd)(n m:Nat):Prop where
 len:s.lasts.length=n
 fit:∀x∈s.waits,inB n x
 fitp:∀x∈s.trace,x.2.length≤60000
 few:s.waits.length≤m
 done:s.trace.length≤m
 pw:s.p.ok m
theorem Sd.snap_length {s:Sd}{n m:Nat}(h:s.ok n m):s.snap.length=n:=by
 rw[←h.len]
 exact qCg _ _ (fun x c=>by rw[h.len];exact h.fit x c)
structure qFe (w:World)(K b gl:Nat)(cap:Nat)(ex:List Value)(vw vt:Value)(us ut:List Value)(s:Sd):Prop where
 blk:Blk w K #[.pointer (some ⟨b,0,none⟩),.slice (some ⟨gl,0,none⟩) s.lasts.length cap,vw,vt] 130
 pw:qD1 w b s.p
 lst:Blk w gl (qA1 s.lasts++ex).toArray 5
 hcap:s.lasts.length+ex.length=cap
 most:cap≤maxLen
 wts:qB3 w vw s.waits us
 trc:qB3 w vt s.trace ut
 wne:∀u∈us,u.ownBlock≠some gl
 tne:∀u∈ut,u.ownBlock≠some gl
 wt:∀g,vw.ownBlock=some g→vt.ownBlock≠some g
structure Off (A:Nat→Prop)(K b gl:Nat)(vw vt:Value)(us ut:List Value):Prop where
 K:¬A K
 b:¬A b
 gl:¬A gl
 vw:∀g,vw.ownBlock=some g→¬A g
 vt:∀g,vt.ownBlock=some g→¬A g
 us:∀u∈us,∀g,u.ownBlock=some g→¬A g
 ut:∀u∈ut,∀g,u.ownBlock=some g→¬A g
def qGP (A:Nat→Prop)(w:World)(K b:Nat)(s:Sd):Prop:=∃gl cap ex vw vt us ut,qFe w K b gl cap ex vw vt us ut s∧Off A K b gl vw vt us ut∧∀k,A k→k<w.heap.size
section
variable {w w':World} {K b gl cap:Nat} {ex:List Value} {vw vt:Value} {us ut:List Value} {s:Sd} {A A':Nat→Prop}
theorem qFe.kept (h:qFe w K b gl cap ex vw vt us ut s)(hk:qA4 w w'):qFe w' K b gl cap ex vw vt us ut s:=
 ⟨h.blk.kept hk,Blk.kept h.pw hk,h.lst.kept hk,h.hcap,h.most,h.wts.kept hk,h.trc.kept hk,h.wne,h.tne,h.wt⟩
theorem qFe.low (h:qFe w K b gl cap ex vw vt us ut s):K<w.heap.size∧b<w.heap.size∧gl<w.heap.size∧(∀g,vw.ownBlock=some g→g<w.heap.size)∧(∀g,vt.ownBlock=some g→g<w.heap.size):=
 ⟨h.blk.lt,Blk.lt h.pw,h.lst.lt,fun _ c=>qAp h.wts.row c,fun _ c=>qAp h.trc.row c⟩
theorem qFe.ne (h:qFe w K b gl cap ex vw vt us ut s):b≠K∧b≠gl∧K≠gl∧(∀g,vw.ownBlock=some g→g≠b∧g≠K∧g≠gl)∧(∀g,vt.ownBlock=some g→g≠b∧g≠K∧g≠gl) ∧
 (∀u∈us,∀g,u.ownBlock=some g→g≠b∧g≠K∧g≠gl∧vw.ownBlock≠some g∧vt.ownBlock≠some g)∧(∀u∈ut,∀g,u.ownBlock=some g→g≠b∧g≠K∧g≠gl∧vw.ownBlock≠some g∧vt.ownBlock≠some g):=by
 have J:∀g cur,Blk w g cur 5→g≠b∧g≠K∧vw.ownBlock≠some g∧vt.ownBlock≠some g:=fun g cur f=>by
  refine⟨qAE f h.pw (by decide),qAE f h.blk (by decide),fun e=>?_,fun e=>?_⟩
  · obtain⟨N,q⟩:=qAq h.wts.row e
    exact qAE f q (by decide) rfl
  · obtain⟨N,q⟩:=qAq h.trc.row e
    exact qAE f q (by decide) rfl
 refine⟨qAE h.pw h.blk (by decide),qAE h.pw h.lst (by decide),qAE h.blk h.lst (by decide),fun g l=>?_,fun g l=>?_,fun u j g l=>?_,fun u j g l=>?_⟩
 · obtain⟨c,f⟩:=qAq h.wts.row l
   exact⟨qAE f h.pw (by decide),qAE f h.blk (by decide),qAE f h.lst (by decide)⟩
 · obtain⟨c,f⟩:=qAq h.trc.row l
   exact⟨qAE f h.pw (by decide),qAE f h.blk (by decide),qAE f h.lst (by decide)⟩
 · obtain⟨c,f⟩:=h.wts.blk j l
   obtain⟨G,q,I,F⟩:=J g c f
   exact⟨G,q,fun e=>h.wne u j (by rw[l,e]),I,F⟩
 · obtain⟨c,f⟩:=h.trc.blk j l
   obtain⟨G,q,I,F⟩:=J g c f
   exact⟨G,q,fun e=>h.tne u j (by rw[l,e]),I,F⟩
end
theorem qKX.chgL {row:Option Nat}{k:Nat}{e:TypeId}{w w':World}(h:qKX row k e w w'):Chg row.toList w w':=
 ⟨h.os,h.tape,h.output,h.size,fun i c hn=>by
  rcases h.block i c with hs|⟨hr',_⟩
  · exact hs
  · exact absurd (by rw[hr'];simp) hn⟩
theorem qAy {w:World}{B n size:Nat}{e:TypeId}{v:Value}{xs:List Value}(h:w.ownsRow B e size v n xs)(hn:0<n):∃g cap,v= .slice (some ⟨g,0,none⟩) n cap:=by
 rcases h.2 with ⟨_,h0⟩|⟨g',cap,cur,rfl,_⟩
 · omega
 · exact⟨g',cap,rfl⟩
section
variable {w w6:World} {K b gl cap:Nat} {ex:List Value} {vw vt v6 u6:Value} {us ut:List Value} {s:Sd} {x:Wr} {A:Nat→Prop}
theorem qAt {v:Value}{g:Nat}:g∈v.ownBlock.toList↔v.ownBlock=some g:=by simp[Option.mem_toList]
theorem qFe.pushW (X:qFe w K b gl cap ex vw vt us ut s)(hc:Chg vw.ownBlock.toList w w6)(hrow:w6.ownsRow 0 133 2 v6 (s.waits.length+1) (qBH s.waits us++ [.int .i64 x.1,u6]))
 (J:w6.ownsRow w.heap.size 5 1 u6 x.2.length (qA1 x.2)) (hv:∀g,v6.ownBlock=some g→vw.ownBlock=some g∨w.heap.size≤g) :
 qFe (w6.setCell ⟨K,2,none⟩ v6) K b gl cap ex v6 vt (us++ [u6]) ut { s with waits:=s.waits++ [x] }:=by
 obtain⟨n1,n2,n3,O,n5,n6,n7⟩:=X.ne
 obtain⟨l1,l2,l3,l4,l5⟩:=X.low
 have I:Chg [K] w6 (w6.setCell ⟨K,2,none⟩ v6):=Chg.step (by simp) _
 have a0:K∉vw.ownBlock.toList:=fun h=>(O K (qAt.1 h)).2.1 rfl
 have a3:b∉vw.ownBlock.toList:=fun h=>(O b (qAt.1 h)).1 rfl
 have a2:gl∉vw.ownBlock.toList:=fun h=>(O gl (qAt.1 h)).2.2 rfl
 have Y:=(hc.blk X.blk a0)
 have kind:∀g cur,Blk w6 g cur 5→g∉ [K]:=fun g cur h=>by simpa using qAE h Y (by decide)
 have q:∀g cur,Blk w6 g cur 133→g∉ [K]:=fun g cur h=>by simpa using qAE h Y (by decide)
 have F:qB3 w6 vt s.trace ut:=X.trc.chg hc (fun g j h=>X.wt g (qAt.1 h) j) (fun u J g j h=>(n7 u J g j).2.2.2.1 (qAt.1 h))
 have Z:∀(i:Nat) (y:Wr) (u:Value),s.waits[i]? = some y→us[i]? = some u→w6.ownsRow 0 5 1 u y.2.length (qA1 y.2):=fun i y u G f =>
  qAO (X.wts.each i y u G f) hc fun g j h=>(n6 u (List.mem_of_getElem? f) g j).2.2.2.1 (qAt.1 h)
 refine⟨?_,I.blk (hc.blk X.pw a3) (by simpa using n1),I.blk (hc.blk X.lst a2) (by simpa using n3.symm),X.hcap,X.most,?_,?_,?_,X.tne,?_⟩
 · simpa using Y.set 2 v6
 · refine⟨?_,by simp[X.wts.len],fun i y u G f=>?_⟩
   · rw[qD6 _ _ _ _ X.wts.len]
     have:w6.ownsRow 0 133 2 v6 (s.waits++ [x]).length (qBH s.waits us++ [.int .i64 x.1,u6]):=by simpa using hrow
     refine qAO this I fun g j=>?_
     obtain⟨c,l⟩:=qAq this j
     exact q g c l
   · have key:w6.ownsRow 0 5 1 u y.2.length (qA1 y.2):=by
      by_cases hi:i<s.waits.length
      · rw[List.getElem?_append_left (by rw[X.wts.len];exact hi)]at f
        rw[show(s.waits++ [x])[i]? = s.waits[i]? from List.getElem?_append_left hi]at G
        exact Z i y u G f
      · have V:=(List.getElem?_eq_some_iff.1 G).1
        simp only[List.length_append,List.length_singleton]at V
        have a4:i=s.waits.length:=by omega
        subst a4
        have N:some x=some y:=by simpa using G
        rw[←X.wts.len]at f
        have a1:some u6=some u:=by simpa using f
        cases N;cases a1
        exact qAh J (Nat.zero_le _)
     refine qAO key I fun g j=>?_
     obtain⟨c,l⟩:=qAq key j
     exact kind g c l
 · refine F.chg I (fun g j=>?_) (fun u f g j=>?_)
   · obtain⟨c,l⟩:=qAq F.row j
     exact q g c l
   · obtain⟨c,l⟩:=F.blk f j
     exact kind g c l
 · intro u f e
   rcases List.mem_append.1 f with h|h
   · exact X.wne u h e
   · rw[List.mem_singleton.1 h]at e
     have:=qAN J e
     omega
 · intro g j e
   rcases hv g j with h|h
   · exact X.wt g h e
   · have:=l5 g e
     omega
theorem qFe.pushT (X:qFe w K b gl cap ex vw vt us ut s)(hc:Chg vt.ownBlock.toList w w6)(hrow:w6.ownsRow 0 133 2 v6 (s.trace.length+1) (qBH s.trace ut++ [.int .i64 x.1,u6]))
 (J:w6.ownsRow w.heap.size 5 1 u6 x.2.length (qA1 x.2)) (hv:∀g,v6.ownBlock=some g→vt.ownBlock=some g∨w.heap.size≤g) :
 qFe (w6.setCell ⟨K,3,none⟩ v6) K b gl cap ex vw v6 us (ut++ [u6]) { s with trace:=s.trace++ [x] }:=by
 obtain⟨n1,n2,n3,n4,O,n6,n7⟩:=X.ne
 obtain⟨l1,l2,l3,l4,l5⟩:=X.low
 have I:Chg [K] w6 (w6.setCell ⟨K,3,none⟩ v6):=Chg.step (by simp) _
 have a0:K∉vt.ownBlock.toList:=fun h=>(O K (qAt.1 h)).2.1 rfl
 have a3:b∉vt.ownBlock.toList:=fun h=>(O b (qAt.1 h)).1 rfl
 have a2:gl∉vt.ownBlock.toList:=fun h=>(O gl (qAt.1 h)).2.2 rfl
 have Y:=(hc.blk X.blk a0)
 have kind:∀g cur,Blk w6 g cur 5→g∉ [K]:=fun g cur h=>by simpa using qAE h Y (by decide)
 have q:∀g cur,Blk w6 g cur 133→g∉ [K]:=fun g cur h=>by simpa using qAE h Y (by decide)
 have F:qB3 w6 vw s.waits us:=X.wts.chg hc (fun g j h=>X.wt g j (qAt.1 h)) (fun u J g j h=>(n6 u J g j).2.2.2.2 (qAt.1 h))
 have Z:∀(i:Nat) (y:Wr) (u:Value),s.trace[i]? = some y→ut[i]? = some u→w6.ownsRow 0 5 1 u y.2.length (qA1 y.2):=fun i y u G f =>
  qAO (X.trc.each i y u G f) hc fun g j h=>(n7 u (List.mem_of_getElem? f) g j).2.2.2.2 (qAt.1 h)
 refine⟨?_,I.blk (hc.blk X.pw a3) (by simpa using n1),I.blk (hc.blk X.lst a2) (by simpa using n3.symm),X.hcap,X.most,?_,?_,X.wne,?_,?_⟩
 · simpa using Y.set 3 v6
 · refine F.chg I (fun g j=>?_) (fun u f g j=>?_)
   · obtain⟨c,l⟩:=qAq F.row j
     exact q g c l
   · obtain⟨c,l⟩:=F.blk f j
     exact kind g c l
 · refine⟨?_,by simp[X.trc.len],fun i y u G f=>?_⟩
   · rw[qD6 _ _ _ _ X.trc.len]
     have:w6.ownsRow 0 133 2 v6 (s.trace++ [x]).length (qBH s.trace ut++ [.int .i64 x.1,u6]):=by simpa using hrow
     refine qAO this I fun g j=>?_
     obtain⟨c,l⟩:=qAq this j
     exact q g c l
   · have key:w6.ownsRow 0 5 1 u y.2.length (qA1 y.2):=by
      by_cases hi:i<s.trace.length
      · rw[List.getElem?_append_left (by rw[X.trc.len];exact hi)]at f
        rw[show(s.trace++ [x])[i]? = s.trace[i]? from List.getElem?_append_left hi]at G
        exact Z i y u G f
      · have V:=(List.getElem?_eq_some_iff.1 G).1
        simp only[List.length_append,List.length_singleton]at V
        have a4:i=s.trace.length:=by omega
        subst a4
        have N:some x=some y:=by simpa using G
        rw[←X.trc.len]at f
        have a1:some u6=some u:=by simpa using f
        cases N;cases a1
        exact qAh J (Nat.zero_le _)
     refine qAO key I fun g j=>?_
     obtain⟨c,l⟩:=qAq key j
     exact kind g c l
 · intro u f e
   rcases List.mem_append.1 f with h|h
   · exact X.tne u h e
   · rw[List.mem_singleton.1 h]at e
     have:=qAN J e
     omega
 · intro g j e
   rcases hv g e with h|h
   · exact X.wt g j h
   · have:=l4 g j
     omega
theorem qFe.power (X:qFe w K b gl cap ex vw vt us ut s){p':Pw}(hc:Chg [b] w w6)(hp:qD1 w6 b p'):qFe w6 K b gl cap ex vw vt us ut { s with p:=p' }:=by
 obtain⟨l,q,I,F,h,G,j⟩:=X.ne
 exact⟨hc.blk X.blk (by simpa using l.symm),hp,hc.blk X.lst (by simpa using q.symm),X.hcap,X.most,
  X.wts.chg hc (fun g c=>by simpa using (F g c).1) (fun u f g c=>by simpa using (G u f g c).1),
  X.trc.chg hc (fun g c=>by simpa using (h g c).1) (fun u f g c=>by simpa using (j u f g c).1),X.wne,X.tne,X.wt⟩
theorem Off.same (O:Off A K b gl vw vt us ut)(hc:Chg [b] w w6):qA8 A w w6:=.of_chg hc (by simpa using O.b)
theorem Off.sameW (O:Off A K b gl vw vt us ut)(hc:Chg vw.ownBlock.toList w w6):qA8 A w w6:=.of_chg hc (fun g c=>O.vw g (qAt.1 c))
theorem Off.sameT (O:Off A K b gl vw vt us ut)(hc:Chg vt.ownBlock.toList w w6):qA8 A w w6:=.of_chg hc (fun g c=>O.vt g (qAt.1 c))
theorem Off.sameK (O:Off A K b gl vw vt us ut)(hc:Chg [K] w w6):qA8 A w w6:=.of_chg hc (by simpa using O.K)
theorem Off.setW (O:Off A K b gl vw vt us ut)(hA:∀k,A k→k<w.heap.size)(hv:∀g,v6.ownBlock=some g→vw.ownBlock=some g∨w.heap.size≤g)(hu:∀g,u6.ownBlock=some g→w.heap.size≤g):Off A K b gl v6 vt (us++ [u6]) ut:=
 ⟨O.K,O.b,O.gl,fun g c f=>by
  rcases hv g c with h|h
  · exact O.vw g h f
  · have:=hA g f;omega,O.vt,fun u j g c f=>by
  rcases List.mem_append.1 j with h|h
  · exact O.us u h g c f
  · rw[List.mem_singleton.1 h]at c
    have:=hu g c;have:=hA g f;omega,O.ut⟩
theorem Off.setT (O:Off A K b gl vw vt us ut)(hA:∀k,A k→k<w.heap.size)(hv:∀g,v6.ownBlock=some g→vt.ownBlock=some g∨w.heap.size≤g)(hu:∀g,u6.ownBlock=some g→w.heap.size≤g):Off A K b gl vw v6 us (ut++ [u6]):=
 ⟨O.K,O.b,O.gl,O.vw,fun g c f=>by
  rcases hv g c with h|h
  · exact O.vt g h f
  · have:=hA g f;omega,O.us,fun u j g c f=>by
  rcases List.mem_append.1 j with h|h
  · exact O.ut u h g c f
  · rw[List.mem_singleton.1 h]at c
    have:=hu g c;have:=hA g f;omega⟩
end
structure Dk where
 p:Pw
 lasts:List (List UInt8)
 waits:List Wr
 trace:List Wr
 no:Bool
def inD (x:Wr):Prop:=0≤x.1∧x.1.toNat<32∧x.2.length=32
structure Dk.ok (d:Dk)(m:Nat):Prop where
 len:d.lasts.length=32
 all:∀x∈d.lasts,x.length=32
 fit:∀x∈d.waits,inD x
 fitp:∀x∈d.trace,x.2.length≤60000
 few:d.waits.length≤m
 done:d.trace.length≤m
 pw:d.p.ok m
def qBh (b:Nat)(ls:List Value)(vw vt:Value)(r:Bool):Array Value:=(.pointer (some ⟨b,0,none⟩)::(ls++ [vw,vt,.bool r])).toArray
section
variable {b:Nat} {ls:List Value} {vw vt:Value} {r:Bool} (hl:ls.length=32)
theorem qHN:(qBh b ls vw vt r)[0]? = some (.pointer (some ⟨b,0,none⟩)):=by simp[qBh]
include hl
theorem qCs:(qBh b ls vw vt r)[33]? = some vw:=by
 simp[qBh,hl]
theorem qED:(qBh b ls vw vt r)[34]? = some vt:=by simp[qBh,hl]
theorem qGa:(qBh b ls vw vt r)[35]? = some (.bool r):=by simp[qBh,hl]
theorem qEE (i:Nat)(hi:i<32):(qBh b ls vw vt r)[1+i]? = ls[i]?:=by
 rw[Nat.add_comm]
 simp[qBh,List.getElem?_append,hl,hi]
theorem qNg (v:Value):(qBh b ls vw vt r).setIfInBounds 33 v=qBh b ls v vt r:=by
 simp[qBh,hl]
theorem qQQ (v:Value):(qBh b ls vw vt r).setIfInBounds 34 v=qBh b ls vw v r:=by
 simp[qBh,hl]
theorem qQR (q:Bool):(qBh b ls vw vt r).setIfInBounds 35 (.bool q)=qBh b ls vw vt q:=by
 simp[qBh,hl]
theorem qNh (i:Nat)(hi:i<32)(v:Value):(qBh b ls vw vt r).setIfInBounds (1+i) v=qBh b (ls.set i v) vw vt r:=by
 rw[Nat.add_comm]
 simp[qBh,hl,hi]
end
structure qBo (w:World)(ls:List Value)(bs:List (List UInt8)):Prop where
 len:ls.length=bs.length
 each:∀(i:Nat) (x:List UInt8) (u:Value),bs[i]? = some x→ls[i]? = some u→w.ownsRow 0 5 1 u x.length (qA1 x)
theorem qBo.chg {w w':World}{ls:List Value}{xs:List (List UInt8)}{bs:List Nat}(h:qBo w ls xs)(hc:Chg bs w w')(h1:∀u∈ls,∀g,u.ownBlock=some g→g∉bs):qBo w' ls xs:=
 ⟨h.len,fun i x u f c=>qAO (h.each i x u f c) hc (h1 u (List.mem_of_getElem? c))⟩
theorem qBo.kept {w w':World}{ls:List Value}{xs:List (List UInt8)}(h:qBo w ls xs)(hk:qA4 w w'):qBo w' ls xs:=h.chg (bs:=[]) (Chg.of_kept hk) (by simp)
theorem qBo.blk {w:World}{ls:List Value}{xs:List (List UInt8)}(h:qBo w ls xs){u:Value}(hu:u∈ls){g:Nat}(hg:u.ownBlock=some g):∃cur,Blk w g cur 5:=by
 obtain⟨i,f⟩:=List.getElem?_of_mem hu
 have c:i<ls.length:=(List.getElem?_eq_some_iff.1 f).1
 rw[h.len]at c
 exact qAq (h.each i _ u (List.getElem?_eq_getElem c) f) hg
theorem qBo.set {w:World}{ls:List Value}{xs:List (List UInt8)}(h:qBo w ls xs)(k:Nat){x:List UInt8}{u:Value}(hu:w.ownsRow 0 5 1 u x.length (qA1 x)):qBo w (ls.set k u) (xs.set k x):=by
 refine⟨by simp[h.len],fun i y v c f=>?_⟩
 rw[List.getElem?_set]at c f
 by_cases j:k=i
 · subst j
   rw[if_pos rfl]at c f
   by_cases hl:k<xs.length
   · rw[if_pos hl]at c
     rw[if_pos (by rw[h.len];exact hl)]at f
     cases c;cases f;exact hu
   · rw[if_neg hl]at c
     cases c
 · rw[if_neg j]at c f
   exact h.each i y v c f
theorem qBo.get {w:World}{ls:List Value}{xs:List (List UInt8)}(h:qBo w ls xs)(i:Nat)(hi:i<xs.length):∃u,ls[i]? = some u∧u∈ls∧w.ownsRow 0 5 1 u xs[i].length (qA1 xs[i]):=by
 have c:i<ls.length:=by rw[h.len];exact hi
 exact⟨ls[i],List.getElem?_eq_getElem c,List.getElem_mem c,h.each i _ _ (List.getElem?_eq_getElem hi) (List.getElem?_eq_getElem c)⟩
structure qDO (w:World)(K b:Nat)(ls:List Value)(vw vt:Value)(us ut:List Value)(d:Dk):Prop where
 blk:Blk w K (qBh b ls vw vt d.no) 137
 pw:qD1 w b d.p
 lst:qBo w ls d.lasts
 wts:qB3 w vw d.waits us
 trc:qB3 w vt d.trace ut
 wt:∀g,vw.ownBlock=some g→vt.ownBlock≠some g
structure qFU (A:Nat→Prop)(K b:Nat)(ls:List Value)(vw vt:Value)(us ut:List Value):Prop where
 K:¬A K
 b:¬A b
 ls:∀u∈ls,∀g,u.ownBlock=some g→¬A g
 vw:∀g,vw.ownBlock=some g→¬A g
 vt:∀g,vt.ownBlock=some g→¬A g
 us:∀u∈us,∀g,u.ownBlock=some g→¬A g
 ut:∀u∈ut,∀g,u.ownBlock=some g→¬A g
def qJH (A:Nat→Prop)(w:World)(K b:Nat)(d:Dk):Prop:=∃ls vw vt us ut,qDO w K b ls vw vt us ut d∧qFU A K b ls vw vt us ut∧∀k,A k→k<w.heap.size
section
variable {w w':World} {K b:Nat} {ls:List Value} {vw vt:Value} {us ut:List Value} {d:Dk} {A A':Nat→Prop}
theorem qDO.kept (h:qDO w K b ls vw vt us ut d)(hk:qA4 w w'):qDO w' K b ls vw vt us ut d:=
 ⟨h.blk.kept hk,Blk.kept h.pw hk,h.lst.kept hk,h.wts.kept hk,h.trc.kept hk,h.wt⟩
theorem qDO.low (h:qDO w K b ls vw vt us ut d):K<w.heap.size∧b<w.heap.size∧(∀g,vw.ownBlock=some g→g<w.heap.size)∧(∀g,vt.ownBlock=some g→g<w.heap.size):=
 ⟨h.blk.lt,Blk.lt h.pw,fun _ c=>qAp h.wts.row c,fun _ c=>qAp h.trc.row c⟩
theorem qDO.ne (h:qDO w K b ls vw vt us ut d):b≠K∧(∀g,vw.ownBlock=some g→g≠b∧g≠K)∧(∀g,vt.ownBlock=some g→g≠b∧g≠K) ∧
 (∀g cur,Blk w g cur 5→g≠b∧g≠K∧vw.ownBlock≠some g∧vt.ownBlock≠some g):=by
 refine⟨qAE h.pw h.blk (by decide),fun g j=>?_,fun g j=>?_,fun g cur f=>⟨qAE f h.pw (by decide),qAE f h.blk (by decide),fun e=>?_,fun e=>?_⟩⟩
 · obtain⟨c,f⟩:=qAq h.wts.row j
   exact⟨qAE f h.pw (by decide),qAE f h.blk (by decide)⟩
 · obtain⟨c,f⟩:=qAq h.trc.row j
   exact⟨qAE f h.pw (by decide),qAE f h.blk (by decide)⟩
 · obtain⟨q,l⟩:=qAq h.wts.row e
   exact qAE f l (by decide) rfl
 · obtain⟨q,l⟩:=qAq h.trc.row e
   exact qAE f l (by decide) rfl
theorem qDO.chgB {bs:List Nat}(X:qDO w K b ls vw vt us ut d)(hc:Chg bs w w')(hk:∀g∈bs,g=K∨g=b) :
 qBo w' ls d.lasts∧qB3 w' vw d.waits us∧qB3 w' vt d.trace ut:=by
 obtain⟨J,G,F,I⟩:=X.ne
 have nb:∀g cur,Blk w g cur 5→g∉bs:=fun g cur h q=>by
  have:=I g cur h
  rcases hk g q with e|e
  · exact this.2.1 e
  · exact this.1 e
 refine⟨X.lst.chg hc (fun u l g j=>?_),X.wts.chg hc (fun g j q=>?_) (fun u l g j=>?_),X.trc.chg hc (fun g j q=>?_) (fun u l g j=>?_)⟩
 · obtain⟨c,f⟩:=X.lst.blk l j
   exact nb g c f
 · have:=G g j
   rcases hk g q with e|e
   · exact this.2 e
   · exact this.1 e
 · obtain⟨c,f⟩:=X.wts.blk l j
   exact nb g c f
 · have:=F g j
   rcases hk g q with e|e
   · exact this.2 e
   · exact this.1 e
 · obtain⟨c,f⟩:=X.trc.blk l j
   exact nb g c f
theorem qDO.power (X:qDO w K b ls vw vt us ut d){p':Pw}(hc:Chg [b] w w')(hp:qD1 w' b p'):qDO w' K b ls vw vt us ut { d with p:=p' }:=by
 obtain⟨c,h,f⟩:=X.chgB hc (by simp)
 exact⟨hc.blk X.blk (by simpa using X.ne.1.symm),hp,c,h,f,X.wt⟩
end
theorem qB3.push {w w6:World}{v v6 u6:Value}{l:List Wr}{us:List Value}{x:Wr}(h:qB3 w v l us)(hc:Chg v.ownBlock.toList w w6)(hrow:w6.ownsRow 0 133 2 v6 (l.length+1) (qBH l us++ [.int .i64 x.1,u6]))
 (hu:w6.ownsRow 0 5 1 u6 x.2.length (qA1 x.2)):qB3 w6 v6 (l++ [x]) (us++ [u6]):=by
 refine⟨?_,by simp[h.len],fun i y u j f=>?_⟩
 · rw[qD6 _ _ _ _ h.len]
   simpa using hrow
 · by_cases O:i<l.length
   · rw[List.getElem?_append_left (by rw[h.len];exact O)]at f
     rw[show(l++ [x])[i]? = l[i]? from List.getElem?_append_left O]at j
     exact qAO (h.each i y u j f) hc fun g V Y=>by
      obtain⟨c,F⟩:=h.blk (List.mem_of_getElem? f) V
      obtain⟨Z,J⟩:=qAq h.row (qAt.1 Y)
      exact qAE F J (by decide) rfl
   · have q:=(List.getElem?_eq_some_iff.1 j).1
     simp only[List.length_append,List.length_singleton]at q
     have N:i=l.length:=by omega
     subst N
     have G:some x=some y:=by simpa using j
     rw[←h.len]at f
     have I:some u6=some u:=by simpa using f
     cases G;cases I
     exact hu
section
variable {w w' w6:World} {K b:Nat} {ls:List Value} {vw vt v6 u6:Value} {us ut:List Value} {d:Dk} {x:Wr} {A:Nat→Prop}
theorem qAu {g n B size:Nat}{cs:Array Value}{e t:TypeId}{v:Value}{xs:List Value}(h:w.ownsRow B e size v n xs)(hc:Chg [g] w w')(hg:Blk w g cs t)(hne:e≠t):w'.ownsRow B e size v n xs:=
 qAO h hc fun k j l=>by
  obtain⟨c,f⟩:=qAq h j
  exact qAE f hg hne (List.mem_singleton.1 l)
theorem qB3.kind {g:Nat}{cs:Array Value}{t:TypeId}{v:Value}{l:List Wr}{us:List Value}(h:qB3 w v l us)(hc:Chg [g] w w')(hg:Blk w g cs t)(h1:133≠t)(h2:5≠t):qB3 w' v l us:=
 ⟨qAu h.row hc hg h1,h.len,fun i x u c f=>qAu (h.each i x u c f) hc hg h2⟩
theorem qBo.kind {g:Nat}{cs:Array Value}{t:TypeId}{ls:List Value}{l:List (List UInt8)}(h:qBo w ls l)(hc:Chg [g] w w')(hg:Blk w g cs t)(h2:5≠t):qBo w' ls l:=
 ⟨h.len,fun i x u c f=>qAu (h.each i x u c f) hc hg h2⟩
theorem qBX {v:Value}{g n size:Nat}{cs:Array Value}{e t:TypeId}{xs:List Value}(h:w.ownsRow 0 e size v n xs)(hg:Blk w g cs t)(hne:t≠e):g∉v.ownBlock.toList:=fun j=>by
 obtain⟨c,f⟩:=qAq h (qAt.1 j)
 exact qAE hg f hne rfl
theorem qB3.row' {v:Value}{l:List Wr}{us:List Value}(h:qB3 w v l us)(hc:Chg vw.ownBlock.toList w w'){m size:Nat}{xs:List Value}(hw:w.ownsRow 0 133 size vw m xs)(hn:∀g,vw.ownBlock=some g→v.ownBlock≠some g):qB3 w' v l us:=
 h.chg hc (fun g j F=>hn g (qAt.1 F) j) (fun u q g j=>by
  obtain⟨c,f⟩:=h.blk q j
  exact qBX hw f (by decide))
theorem qBo.row' {l:List (List UInt8)}(h:qBo w ls l)(hc:Chg vw.ownBlock.toList w w'){m size:Nat}{xs:List Value}(hw:w.ownsRow 0 133 size vw m xs):qBo w' ls l:=
 h.chg hc (fun u j g q=>by
  obtain⟨c,f⟩:=h.blk j q
  exact qBX hw f (by decide))
theorem qDO.pushW (X:qDO w K b ls vw vt us ut d)(hl:ls.length=32)(hc:Chg vw.ownBlock.toList w w6)(hrow:w6.ownsRow 0 133 2 v6 (d.waits.length+1) (qBH d.waits us++ [.int .i64 x.1,u6]))
 (hu:w6.ownsRow w.heap.size 5 1 u6 x.2.length (qA1 x.2)) (hv:∀g,v6.ownBlock=some g→vw.ownBlock=some g∨w.heap.size≤g) :
 qDO (w6.setCell ⟨K,33,none⟩ v6) K b ls v6 vt (us++ [u6]) ut { d with waits:=d.waits++ [x] }:=by
 have c:Chg [K] w6 (w6.setCell ⟨K,33,none⟩ v6):=Chg.step (by simp) _
 have f:=hc.blk X.blk (qBX X.wts.row X.blk (by decide))
 refine⟨?_,c.blk (hc.blk X.pw (qBX X.wts.row X.pw (by decide))) (by simpa using X.ne.1),(X.lst.row' hc X.wts.row).kind c f (by decide),(X.wts.push hc hrow (qAh hu (Nat.zero_le _))).kind c f (by decide) (by decide),(X.trc.row' hc X.wts.row X.wt).kind c f (by decide) (by decide),fun g j=>?_⟩
 · have:=f.set 33 v6
   rwa [qNg hl]at this
 · rcases hv g j with h|h
   · exact X.wt g h
   · intro e
     have:=X.low.2.2.2 g e
     omega
theorem qDO.pushT (X:qDO w K b ls vw vt us ut d)(hl:ls.length=32)(hc:Chg vt.ownBlock.toList w w6)(hrow:w6.ownsRow 0 133 2 v6 (d.trace.length+1) (qBH d.trace ut++ [.int .i64 x.1,u6]))
 (hu:w6.ownsRow 0 5 1 u6 x.2.length (qA1 x.2)) (hv:∀g,v6.ownBlock=some g→vt.ownBlock=some g∨w.heap.size≤g) :
 qDO (w6.setCell ⟨K,34,none⟩ v6) K b ls vw v6 us (ut++ [u6]) { d with trace:=d.trace++ [x] }:=by
 have c:Chg [K] w6 (w6.setCell ⟨K,34,none⟩ v6):=Chg.step (by simp) _
 have f:=hc.blk X.blk (qBX X.trc.row X.blk (by decide))
 refine⟨?_,c.blk (hc.blk X.pw (qBX X.trc.row X.pw (by decide))) (by simpa using X.ne.1),(X.lst.row' hc X.trc.row).kind c f (by decide),(X.wts.row' hc X.trc.row (fun g q l=>X.wt g l q)).kind c f (by decide) (by decide),(X.trc.push hc hrow hu).kind c f (by decide) (by decide),fun g j e=>?_⟩
 · have:=f.set 34 v6
   rwa [qQQ hl]at this
 · rcases hv g e with h|h
   · exact X.wt g j h
   · have:=X.low.2.2.1 g j
     omega
theorem qDO.lay (X:qDO w K b ls vw vt us ut d)(hl:ls.length=32)(i:Nat)(hi:i<32){y:List UInt8}{u:Value}(hu:w.ownsRow 0 5 1 u y.length (qA1 y)) :
 qDO (w.setCell ⟨K,1+i,none⟩ u) K b (ls.set i u) vw vt us ut { d with lasts:=d.lasts.set i y }:=by
 have c:Chg [K] w (w.setCell ⟨K,1+i,none⟩ u):=Chg.step (by simp) _
 refine⟨?_,c.blk X.pw (by simpa using X.ne.1),(X.lst.set i hu).kind c X.blk (by decide),X.wts.kind c X.blk (by decide) (by decide),X.trc.kind c X.blk (by decide) (by decide),X.wt⟩
 have:=X.blk.set (1+i) u
 rwa [qNh hl i hi]at this
theorem qDO.clear (X:qDO w K b ls vw vt us ut d)(hl:ls.length=32):qDO (w.setCell ⟨K,33,none⟩ (.slice none 0 0)) K b ls (.slice none 0 0) vt [] ut { d with waits:=[] }:=by
 have c:Chg [K] w (w.setCell ⟨K,33,none⟩ (.slice none 0 0)):=Chg.step (by simp) _
 refine⟨?_,c.blk X.pw (by simpa using X.ne.1),X.lst.kind c X.blk (by decide),qB3.nil _,X.trc.kind c X.blk (by decide) (by decide),fun g f=>by cases f⟩
 have:=X.blk.set 33 (.slice none 0 0)
 rwa [qNg hl]at this
theorem qDO.refuse (X:qDO w K b ls vw vt us ut d)(hl:ls.length=32)(q:Bool):qDO (w.setCell ⟨K,35,none⟩ (.bool q)) K b ls vw vt us ut { d with no:=q }:=by
 have c:Chg [K] w (w.setCell ⟨K,35,none⟩ (.bool q)):=Chg.step (by simp) _
 refine⟨?_,c.blk X.pw (by simpa using X.ne.1),X.lst.kind c X.blk (by decide),X.wts.kind c X.blk (by decide) (by decide),X.trc.kind c X.blk (by decide) (by decide),X.wt⟩
 have:=X.blk.set 35 (.bool q)
 rwa [qQR hl]at this
theorem qFU.same (O:qFU A K b ls vw vt us ut)(hc:Chg [b] w w6):qA8 A w w6:=.of_chg hc (by simpa using O.b)
theorem qFU.sameK (O:qFU A K b ls vw vt us ut)(hc:Chg [K] w w6):qA8 A w w6:=.of_chg hc (by simpa using O.K)
theorem qFU.sameW (O:qFU A K b ls vw vt us ut)(hc:Chg vw.ownBlock.toList w w6):qA8 A w w6:=.of_chg hc (fun g c=>O.vw g (qAt.1 c))
theorem qFU.sameT (O:qFU A K b ls vw vt us ut)(hc:Chg vt.ownBlock.toList w w6):qA8 A w w6:=.of_chg hc (fun g c=>O.vt g (qAt.1 c))
theorem qFU.setW (O:qFU A K b ls vw vt us ut)(hA:∀k,A k→k<w.heap.size)(hv:∀g,v6.ownBlock=some g→vw.ownBlock=some g∨w.heap.size≤g)(hu:∀g,u6.ownBlock=some g→w.heap.size≤g):qFU A K b ls v6 vt (us++ [u6]) ut:=
 ⟨O.K,O.b,O.ls,fun g c f=>by
  rcases hv g c with h|h
  · exact O.vw g h f
  · have:=hA g f;omega,O.vt,fun u j g c f=>by
  rcases List.mem_append.1 j with h|h
  · exact O.us u h g c f
  · rw[List.mem_singleton.1 h]at c
    have:=hu g c;have:=hA g f;omega,O.ut⟩
theorem qFU.setT (O:qFU A K b ls vw vt us ut)(hA:∀k,A k→k<w.heap.size)(hv:∀g,v6.ownBlock=some g→vt.ownBlock=some g∨w.heap.size≤g)(hu:∀g,u6.ownBlock=some g→w.heap.size≤g):qFU A K b ls vw v6 us (ut++ [u6]):=
 ⟨O.K,O.b,O.ls,O.vw,fun g c f=>by
  rcases hv g c with h|h
  · exact O.vt g h f
  · have:=hA g f;omega,O.us,fun u j g c f=>by
  rcases List.mem_append.1 j with h|h
  · exact O.ut u h g c f
  · rw[List.mem_singleton.1 h]at c
    have:=hu g c;have:=hA g f;omega⟩
theorem qFU.lay (O:qFU A K b ls vw vt us ut)(i:Nat){u:Value}(hu:∀g,u.ownBlock=some g→¬A g):qFU A K b (ls.set i u) vw vt us ut:=
 ⟨O.K,O.b,fun v f g c=>by
  rcases List.mem_or_eq_of_mem_set f with h|h
  · exact O.ls v h g c
  · rw[h]at c;exact hu g c,O.vw,O.vt,O.us,O.ut⟩
theorem qFU.clear (O:qFU A K b ls vw vt us ut):qFU A K b ls (.slice none 0 0) vt [] ut:=⟨O.K,O.b,O.ls,(fun g c=>by cases c),O.vt,(by simp),O.ut⟩
end
theorem qHa:SlT prog 128 133 2 32 (.agg #[.int .i64 0,.slice none 0 0]):=SlT.mk' underlying128 (by kernel_rfl) rfl (by omega)
theorem qLZ {w:World}{B B' n g:Nat}{e t:TypeId}{v:Value}{xs:List Value}{cs:Array Value}{p q:Value}(h:w.ownsRow B e 1 v n xs)(hb:Blk w g cs t)(hne:e≠t)(hB:B'≤B):((w.setCell ⟨g,0,none⟩ p).setCell ⟨g,1,none⟩ q).ownsRow B' e 1 v n xs:=by
 refine qAh ?_ hB
 have l:Chg [g] w ((w.setCell ⟨g,0,none⟩ p).setCell ⟨g,1,none⟩ q):=((Chg.refl [g] w).set (by simp) 0 p).set (by simp) 1 q
 refine qAO h l fun g' j=>?_
 obtain⟨c,f⟩:=qAq h j
 simpa using qAE f hb hne
theorem qHb (off:Int)(u:Value)(bs:List UInt8)(hl:bs.length≤65536)(w:World)(hs:Sl w u bs.length (qA1 bs)):Calls prog 179 #[.agg #[.int .i64 off,u]] w fun e w'=>∃a c,e= .returned (.agg #[.int .i64 off,.slice a bs.length c])∧w'.ownsRow w.heap.size 5 1 (.slice a bs.length c) bs.length (qA1 bs)∧qA4 w w':=by
 obtain⟨a,c,I⟩:=hs.len
 subst I
 have q:qA4 w ((w.alloc (.cells #[.int .i64 off,.slice a bs.length c] 133)).alloc (.cells #[.int .i64 0,.slice none 0 0] 133)):=(qal _).alloc (by simp) _
 have N:Blk ((w.alloc (.cells #[.int .i64 off,.slice a bs.length c] 133)).alloc (.cells #[.int .i64 0,.slice none 0 0] 133)) w.heap.size #[.int .i64 off,.slice a bs.length c] 133:=(Blk.new _ _ _).alloc _
 have j:Blk ((w.alloc (.cells #[.int .i64 off,.slice a bs.length c] 133)).alloc (.cells #[.int .i64 0,.slice none 0 0] 133)) (w.heap.size+1) #[.int .i64 0,.slice none 0 0] 133:=by simpa using Blk.new (w.alloc (.cells #[.int .i64 off,.slice a bs.length c] 133)) #[.int .i64 0,.slice none 0 0] 133
 go_enter func179,ntmps179
 go_wp2_with fail
 generalize ((w.alloc (.cells #[.int .i64 off,.slice a bs.length c] 133)).alloc (.cells #[.int .i64 0,.slice none 0 0] 133))=w0 at *
 refine qA3 [(0,0),(1,0),(2,0),(3,0),(4,1),(5,0),(6,2)] (by kernel_rfl) (by kernel_rfl) ?_
 intro w1 f
 replace N:=N.kept f
 replace j:=j.kept f
 repeat
  refine qA0 _ rfl (fun K h=>?_)
  first
   | (refine qqP (by rfl) ?_;apply Exists.intro;refine⟨fun w' F=>?_,h _ ?_⟩;(have c:=N.kept F;have c0:=c.cell 0;have c1:=c.cell 1;clear c;go_simp;first|done|rfl))
   | refine qqN (by rfl) (h _ ?_)
  clear h K;simp only[Act.put,qqB]
 refine qqH _ rfl (by rfl) (fun K h=>?_)
 go_wp2_with fail
 refine(qAZ _ bs (by omega) _ ((hs.kept q).kept f)).mono ?_
 rintro e w2 ⟨v2,rfl,O,l⟩
 replace j:=j.kept l
 obtain⟨J,G,I⟩:=(Sl.of_own O).len
 subst I
 go_wp2
 refine h _ _ (l) ?_
 clear h K
 try simp only[Act.put,qqB]
 repeat
  refine qA0 _ rfl (fun K h=>?_)
  first
   | (refine qqP (by rfl) ?_;apply Exists.intro;refine⟨fun w' F=>?_,h _ ?_⟩;go_simp;first|done|rfl)
   | refine qqN (by rfl) (h _ ?_)
  clear h K;simp only[Act.put,qqB]
 refine qAg _ rfl (fun K h=>?_)
 refine qqP (by rfl) ?_
 have f0:=j.free 0
 have Z:=j.free 1
 have e0:=j.cell 0
 have e1:=j.cell 1
 go_wp2
 refine qA6 ?_
 go_wp2
 have d:=(j.set 0 (.int .i64 off)).set 1 (.slice J bs.length G)
 have V:=d.cell 0
 have Y:=d.cell 1
 refine bodyPost_ret (v:=.agg #[.int .i64 off,.slice J bs.length G]) (by simp[results,results179,go_sem,V,Y];try exact⟨rfl,rfl⟩) rfl ⟨J,G,rfl,?_,?_⟩
 · exact qLZ O j (by decide) (by have:=q.size;have:=f.size;omega)
 · exact((qA4.of (qA4.of q f) l).setCell (p:=⟨w.heap.size+1,0,none⟩) (by show w.heap.size≤w.heap.size+1;omega) _).setCell (p:=⟨w.heap.size+1,1,none⟩) (by show w.heap.size≤w.heap.size+1;omega) _
theorem qDP (K:Nat)(a:Option Addr)(L c:Nat)(w:World)(h:w.cell? ⟨K,1,none⟩=some (.slice a L c)):Calls prog 85 #[.pointer (some ⟨K,0,none⟩)] w fun e w'=>e= .returned (.int .i64 L)∧w=w':=by
 go_enter func85,ntmps85
 go_wp2
 go_ret
 exact⟨rfl,rfl⟩
def isB (L:Nat)(off n:Int):Bool:=decide (0≤off)&&decide (0≤n)&&decide (off≤L)&&decide (n≤L - off)
theorem qCT (K:Nat)(a:Option Addr)(L c:Nat)(hL:L≤100000)(off n:Int)(w:World)(h:w.cell? ⟨K,1,none⟩=some (.slice a L c)):Calls prog 53 #[.pointer (some ⟨K,0,none⟩),.int .i64 off,.int .i64 n] w fun e w'=>e= .returned (.bool (isB L off n))∧w=w':=by
 by_cases j:0≤off
 · by_cases F:0≤n
   · by_cases q:off≤L
     · have l:IntKind.i64.wrap ((L:Int) - off)=(L:Int) - off:=IntWalk.i64_in _ (by omega)
       by_cases f:n≤(L:Int) - off
       · rw[show isB L off n=true by simp[isB];omega]
         go_enter func53,ntmps53
         go_wp2_with fail
         refine(qDP K a L c _ h).mono ?_
         rintro e w1 ⟨rfl,rfl⟩
         go_wp2_with fail
         refine(qDP K a L c _ h).mono ?_
         rintro e w1 ⟨rfl,rfl⟩
         go_wp2
         go_ret
         exact⟨congrArg (fun b=>Ending.returned (Value.bool b)) (by first|rfl|exact decide_eq_false (by omega)|exact decide_eq_true (by omega)),rfl⟩
       · rw[show isB L off n=false by simp[isB];omega]
         go_enter func53,ntmps53
         go_wp2_with fail
         refine(qDP K a L c _ h).mono ?_
         rintro e w1 ⟨rfl,rfl⟩
         go_wp2_with fail
         refine(qDP K a L c _ h).mono ?_
         rintro e w1 ⟨rfl,rfl⟩
         go_wp2
         go_ret
         exact⟨congrArg (fun b=>Ending.returned (Value.bool b)) (by first|rfl|exact decide_eq_false (by omega)|exact decide_eq_true (by omega)),rfl⟩
     · rw[show isB L off n=false by simp[isB];omega]
       go_enter func53,ntmps53
       go_wp2_with fail
       refine(qDP K a L c _ h).mono ?_
       rintro e w1 ⟨rfl,rfl⟩
       go_wp2
       go_ret
       exact⟨rfl,rfl⟩
   · rw[show isB L off n=false by simp[isB];omega]
     go_enter func53,ntmps53
     go_wp2
     go_ret
     exact⟨rfl,rfl⟩
 · rw[show isB L off n=false by simp[isB];omega]
   go_enter func53,ntmps53
   go_wp2
   go_ret
   exact⟨rfl,rfl⟩
theorem qNi (n:Nat)(h0:0<n)(hn:n≤65536)(b:Nat)(p:Pw)(A:Nat→Prop)(w:World)(hA:∀k,A k→k<w.heap.size)(hb:¬A b)(hp:qD1 w b p):Calls prog 37 #[.int .i64 n,.pointer (some ⟨b,0,none⟩)] w fun e w'=>∃K,e= .returned (.pointer (some ⟨K,0,none⟩))∧qGP A w' K b ⟨p,List.replicate n 0,[],[]⟩∧qA4 w w':=by
 have N:¬(n:Int)<0:=by omega
 have J:¬65536<(n:Int):=by omega
 have G:(0:Int)≤(n:Int):=by omega
 have I:(n:Int)≤65536:=by omega
 obtain⟨Z,l⟩:∃Z,Z=List.replicate n (0:UInt8):=⟨_,rfl⟩
 have j:Z.length=n:=by rw[l];simp
 have F:(Instr.makeSlice 32 (.int .i64 (n:Int)) (.int .i64 (n:Int))).run prog w= .ok (.slice (some ⟨w.heap.size,0,none⟩) n n) (w.alloc (.cells (qA1 Z).toArray 5)):=by rw[l];exact qBU (P:=prog) w qAx .i64 .i64 n (by omega)
 rw[←l]
 have c:=qh j
 clear l j
 go_enter func37,ntmps37
 go_wp2
 go_ret
 have q:qA4 w ((w.alloc (.cells (qA1 Z).toArray 5)).alloc (.cells #[.pointer (some ⟨b,0,none⟩),.slice (some ⟨w.heap.size,0,none⟩) n n,.slice none 0 0,.slice none 0 0] 130)):=(qal _).alloc (by simp) _
 refine⟨_,rfl,⟨w.heap.size,n,[],.slice none 0 0,.slice none 0 0,[],[],⟨?_,Blk.kept hp q,?_,by show Z.length+0=n;rw[c.out,Nat.add_zero],by unfold maxLen;omega,qB3.nil _,qB3.nil _,by simp,by simp,(by intro g f;cases f)⟩,⟨?_,hb,?_,(by intro g f;cases f),(by intro g f;cases f),by simp,by simp⟩,fun k h=>Nat.lt_of_lt_of_le (hA k h) q.size⟩,q⟩
 · have:=Blk.new (w.alloc (.cells (qA1 Z).toArray 5)) #[.pointer (some ⟨b,0,none⟩),.slice (some ⟨w.heap.size,0,none⟩) n n,.slice none 0 0,.slice none 0 0] 130
   rw[show(w.alloc (.cells (qA1 Z).toArray 5)).heap.size=w.heap.size+1 by simp]at this
   show Blk _ _ #[_,.slice _ Z.length _,_,_] _
   rw[c.out]
   exact this
 · have:=(Blk.new w (qA1 Z).toArray 5).alloc (.cells #[.pointer (some ⟨b,0,none⟩),.slice (some ⟨w.heap.size,0,none⟩) n n,.slice none 0 0,.slice none 0 0] 130)
   simpa using this
 · intro h;have:=hA _ h;omega
 · intro h;have:=hA _ h;omega
def Sd.wrote (s:Sd)(r:Bool)(p':Pw)(x:Wr):Sd:=if r then⟨p',s.lasts,s.waits++ [x],s.trace++ [x]⟩ else { s with p:=p' }
theorem qQj {n:Nat}{x:Wr}(h:inB n x):isB n x.1 x.2.length=true:=by
 obtain⟨c,f⟩:=h
 simp[isB];omega
theorem qNj (A:Nat→Prop)(K b:Nat)(s:Sd)(n m:Nat)(hn:n≤65536)(hm:m≤100000)(w:World)(h:qGP A w K b s)(ok:s.ok n m)(off:Int)(u:Value)(bs:List UInt8)(hin:inB n (off,bs))(hs:Sl w u bs.length (qA1 bs))(hu:∀a c,u= .slice (some a) bs.length c→0<(qA1 bs).length→A a.block)(r:Bool)(p':Pw)(hsp:s.p.spend=(r,p')) :
 Calls prog 161 #[.pointer (some ⟨K,0,none⟩),.int .i64 off,u] w fun e w'=>e= .returned (.bool r)∧qGP A w' K b (s.wrote r p' (off,bs))∧qA8 A w w':=by
 obtain⟨a,c,he⟩:=hs.len
 subst he
 obtain⟨gl,cap,ex,vw,vt,us,ut,X,O,hA⟩:=h
 have c1:=X.blk.cell 1
 have c0:=X.blk.cell 0
 have a3:=ok.len
 have d9:bs.length≤65536:=by have:=hin.2;simp at this;omega
 have e3:s.p.ok 9223372036854775806:=qE9 ok.pw (by omega)
 have d4:=qQj hin
 rw[a3]at c1
 have HL:=qh a3
 clear a3
 go_enter func161,ntmps161
 go_wp2_with fail
 refine(qCT K _ n _ (by omega) off bs.length _ c1).mono ?_
 rintro e w1 ⟨rfl,rfl⟩
 rw[d4]
 have f2:=qh d4
 clear d4
 go_wp2_with fail
 refine(qAK b s.p p' r _ X.pw e3 hsp).mono ?_
 rintro e w1 ⟨rfl,p1,g1⟩
 have g1:=Chg.of_grown g1
 have X1:=X.power g1 p1
 have e6:=(O.same g1).sl hs hu
 have c7:=O.same g1
 cases r
 · go_wp2
   go_ret
   exact⟨rfl,⟨gl,cap,ex,vw,vt,us,ut,X1,O,fun k ha=>Nat.lt_of_lt_of_le (hA k ha) g1.size⟩,c7⟩
 · obtain⟨wa,wc,I⟩:=X1.wts.slice
   subst I
   obtain⟨ta,tc,I⟩:=X1.trc.slice
   subst I
   have b5:qA4 w1 (w1.alloc (.cells #[.int .i64 off,.slice a bs.length c] 133)):=qal _
   have c2:=Blk.new w1 #[.int .i64 off,.slice a bs.length c] 133
   have X2:=X1.kept b5
   have b8:=e6.kept b5
   have c9:=X1.low
   have b7:w1.heap.size∉(Value.slice wa s.waits.length wc).ownBlock.toList:=fun h=>by
    have:=(X1.low).2.2.2.1 _ (qAt.1 h);omega
   have f4:=ok.few
   have f0:=ok.done
   have e9:w1.heap.size≤(w1.alloc (.cells #[.int .i64 off,.slice a bs.length c] 133)).heap.size:=b5.size
   clear c0 c1
   go_wp2_with fail
   generalize (w1.alloc (.cells #[.int .i64 off,.slice a bs.length c] 133))=w2 at *
   have Z:K∉(Value.slice wa s.waits.length wc).ownBlock.toList:=fun h=>((X2.ne).2.2.2.1 K (qAt.1 h)).2.1 rfl
   have b6:w2.cell? ⟨K,2,none⟩=some (Value.slice wa s.waits.length wc):=X2.blk.cell 2
   have b9:=(X2.low).2.2.2.1
   refine qAb ((Value.slice wa s.waits.length wc).ownBlock.toList) [(0,0),(1,0),(2,0),(3,0),(4,0),(5,0),(6,1),(7,1),(8,1),(9,2),(10,2),(11,2)] (by kernel_rfl) (by kernel_rfl) ?_
   intro f3 j
   repeat
    refine qA0 _ rfl (fun K f=>?_)
    first
     | (refine qqP (by rfl) ?_;apply Exists.intro;refine⟨fun w' a5=>?_,f _ ?_⟩;(have kc:=a5.cell (j.at b6) Z;have bb:=a5.blk (c2.kept j) b7;have e7:=bb.cell 0;have e5:=bb.cell 1;clear bb;go_simp;first|done|rfl))
     | refine qqN (by rfl) (f _ ?_)
    clear f K;simp only[Act.put,qqB]
   refine qqH _ rfl (by rfl) (fun K f=>?_)
   go_wp2_with fail
   refine(qHb off _ bs d9 _ (b8.kept j)).mono ?_
   rintro e b4 ⟨ap,cp,rfl,d0,F⟩
   go_wp2
   refine f _ _ (Chg.of_kept F) ?_
   clear f K
   try simp only[Act.put,qqB]
   refine qqH _ rfl (by rfl) (fun K f=>?_)
   go_wp2
   refine f _ _ (Chg.of_kept (qal _)) ?_
   clear f K
   try simp only[Act.put,qqB]
   refine qqH _ rfl (by rfl) (fun K f=>?_)
   have d1:=(qA5 (qA5 X2.wts.row j) F).alloc (.cells #[.int .i64 off,.slice ap bs.length cp] 133)
   refine qBE qHa (by rfl) (by rfl) (by rfl) d1 (Sl.lit _ #[.int .i64 off,.slice ap bs.length cp] _ 1 (by decide)) (by rfl) (by intro u hu;simp at hu;rcases hu with rfl|rfl<;>rfl) (by show s.waits.length+1≤maxLen;unfold maxLen;omega) (by show(s.waits.length+1)*32≤140737488355328;omega) (Nat.zero_le _) ?_
   intro vp c4 G N c6 _
   obtain⟨gp,a8,I⟩:=qAy G (by omega)
   subst I
   have c5:=qA5 d0 ((qal (.cells #[.int .i64 off,.slice ap bs.length cp] 133)):qA4 b4 _)
   have a6:Chg (Value.slice wa s.waits.length wc).ownBlock.toList w2 c4:=(Chg.of_kept (qA4.of j F)).trans ((Chg.of_kept (qal _)).trans N.chgL)
   refine f _ _ (N.chgL) ?_
   clear f K
   try simp only[Act.put,qqB]
   refine qAg _ rfl (fun K f=>?_)
   refine qqP (by rfl) ?_
   go_wp2
   refine qAg _ rfl (fun K f=>?_)
   refine qqP (by rfl) ?_
   go_wp2
   refine qAg _ rfl (fun K f=>?_)
   refine qqP (by rfl) ?_
   have a0:=a6.blk X2.blk Z
   have fK:=a0.free 2
   have eK:=a0.cell 2
   go_wp2
   refine qA6 ?_
   have V:=j.size
   have e2:=F.size
   have a2:∀g,(Value.slice ap bs.length cp).ownBlock=some g→w2.heap.size≤g:=fun g Y=>Nat.le_trans V (qAN d0 Y)
   have b3:=qAh (qAO c5 N.chgL fun g Y hm=>by
    have:=a2 g Y
    have:=b9 g (qAt.1 hm)
    omega) V
   have a1:∀g,(Value.slice (some ⟨gp,0,none⟩) (s.waits.length+1) a8).ownBlock=some g→(Value.slice wa s.waits.length wc).ownBlock=some g∨w2.heap.size≤g:=fun g Y=>by
    rcases c6 with e|e
    · left;rw[←e];exact Y
    · right
      have h2:some g=some ((b4.alloc (.cells #[.int .i64 off,.slice ap bs.length cp] 133)).heap.size):=Y.symm.trans e
      have h3:=Option.some.inj h2
      have:(b4.alloc (.cells #[.int .i64 off,.slice ap bs.length cp] 133)).heap.size=b4.heap.size+1:=by simp
      omega
   have X3:=qFe.pushW (x:=(off,bs)) X2 a6 G b3 a1
   have a9:Chg [K] c4 (c4.setCell ⟨K,2,none⟩ (.slice (some ⟨gp,0,none⟩) (s.waits.length+1) a8)):=Chg.step (by simp) _
   have q:=(O.sameW a6).trans (O.sameK a9)
   have d8:∀k,A k→k<w2.heap.size:=fun k ha=>by
    have:=hA k ha;have:=g1.size;omega
   have O2:=O.setW d8 a1 a2
   have e4:w1.heap.size≠K:=by have:=c9.1;omega
   replace c2:=a9.blk (a6.blk c2 b7) (by simpa using e4)
   replace b8:=q.sl b8 hu
   have e8:=q.size
   replace q:=(c7.trans (qA8.of_kept b5)).trans q
   have b7:w1.heap.size∉(Value.slice ta s.trace.length tc).ownBlock.toList:=fun h=>by
    have:=c9.2.2.2.2 _ (qAt.1 h);omega
   clear a9 a6 b3 a1 a2 G c6 N c5 d0 F j V e2 b6 b9 Z X2 fK eK a0
   go_wp2_with fail
   generalize (c4.setCell ⟨K,2,none⟩ (.slice (some ⟨gp,0,none⟩) (s.waits.length+1) a8))=w4 at *
   have e1:=q
   have Z:K∉(Value.slice ta s.trace.length tc).ownBlock.toList:=fun h=>((X3.ne).2.2.2.2.1 K (qAt.1 h)).2.1 rfl
   have b6:w4.cell? ⟨K,3,none⟩=some (Value.slice ta s.trace.length tc):=X3.blk.cell 3
   have b9:=(X3.low).2.2.2.2
   refine qAb ((Value.slice ta s.trace.length tc).ownBlock.toList) [(0,0),(1,0),(2,0),(3,0),(4,0),(5,0),(6,1),(7,1),(8,1),(9,2),(10,2),(11,2)] (by kernel_rfl) (by kernel_rfl) ?_
   intro f1 l
   repeat
    refine qA0 _ rfl (fun K f=>?_)
    first
     | (refine qqP (by rfl) ?_;apply Exists.intro;refine⟨fun w' a5=>?_,f _ ?_⟩;(have kc:=a5.cell (l.at b6) Z;have bb:=a5.blk (c2.kept l) b7;have e7:=bb.cell 0;have e5:=bb.cell 1;clear bb;go_simp;first|done|rfl))
     | refine qqN (by rfl) (f _ ?_)
    clear f K;simp only[Act.put,qqB]
   refine qqH _ rfl (by rfl) (fun K f=>?_)
   go_wp2_with fail
   refine(qHb off _ bs d9 _ (b8.kept l)).mono ?_
   rintro e c3 ⟨aq,cq,rfl,e0,J⟩
   go_wp2
   refine f _ _ (Chg.of_kept J) ?_
   clear f K
   try simp only[Act.put,qqB]
   refine qqH _ rfl (by rfl) (fun K f=>?_)
   go_wp2
   refine f _ _ (Chg.of_kept (qal _)) ?_
   clear f K
   try simp only[Act.put,qqB]
   refine qqH _ rfl (by rfl) (fun K f=>?_)
   have d1:=(qA5 (qA5 X3.trc.row l) J).alloc (.cells #[.int .i64 off,.slice aq bs.length cq] 133)
   refine qBE qHa (by rfl) (by rfl) (by rfl) d1 (Sl.lit _ #[.int .i64 off,.slice aq bs.length cq] _ 1 (by decide)) (by rfl) (by intro u hu;simp at hu;rcases hu with rfl|rfl<;>rfl) (by show s.trace.length+1≤maxLen;unfold maxLen;omega) (by show(s.trace.length+1)*32≤140737488355328;omega) (Nat.zero_le _) ?_
   intro vq d2 a4 a7 d6 _
   obtain⟨gq,c8,I⟩:=qAy a4 (by omega)
   subst I
   have d7:=qA5 e0 ((qal (.cells #[.int .i64 off,.slice aq bs.length cq] 133)):qA4 c3 _)
   have d3:Chg (Value.slice ta s.trace.length tc).ownBlock.toList w4 d2:=(Chg.of_kept (qA4.of l J)).trans ((Chg.of_kept (qal _)).trans a7.chgL)
   refine f _ _ (a7.chgL) ?_
   clear f K
   try simp only[Act.put,qqB]
   refine qAg _ rfl (fun K f=>?_)
   refine qqP (by rfl) ?_
   go_wp2
   refine qAg _ rfl (fun K f=>?_)
   refine qqP (by rfl) ?_
   go_wp2
   refine qAg _ rfl (fun K f=>?_)
   refine qqP (by rfl) ?_
   have a0:=d3.blk X3.blk Z
   have fK:=a0.free 3
   have eK:=a0.cell 3
   go_wp2
   refine qA6 ?_
   have V:=l.size
   have e2:=J.size
   have a2:∀g,(Value.slice aq bs.length cq).ownBlock=some g→w4.heap.size≤g:=fun g Y=>Nat.le_trans V (qAN e0 Y)
   have b3:=qAh (qAO d7 a7.chgL fun g Y hm=>by
    have:=a2 g Y
    have:=b9 g (qAt.1 hm)
    omega) V
   have a1:∀g,(Value.slice (some ⟨gq,0,none⟩) (s.trace.length+1) c8).ownBlock=some g→(Value.slice ta s.trace.length tc).ownBlock=some g∨w4.heap.size≤g:=fun g Y=>by
    rcases d6 with e|e
    · left;rw[←e];exact Y
    · right
      have h2:some g=some ((c3.alloc (.cells #[.int .i64 off,.slice aq bs.length cq] 133)).heap.size):=Y.symm.trans e
      have h3:=Option.some.inj h2
      have:(c3.alloc (.cells #[.int .i64 off,.slice aq bs.length cq] 133)).heap.size=c3.heap.size+1:=by simp
      omega
   have X4:=qFe.pushT (x:=(off,bs)) X3 d3 a4 b3 a1
   have a9:Chg [K] d2 (d2.setCell ⟨K,3,none⟩ (.slice (some ⟨gq,0,none⟩) (s.trace.length+1) c8)):=Chg.step (by simp) _
   have q:=(O.sameT d3).trans (O.sameK a9)
   have d5:∀k,A k→k<w4.heap.size:=fun k ha=>by
    have:=d8 k ha;omega
   have O4:=O2.setT d5 a1 a2
   go_wp2
   go_ret
   exact⟨rfl,⟨gl,cap,ex,_,_,_,_,X4,O4,fun k ha=>Nat.lt_of_lt_of_le (d5 k ha) q.size⟩,e1.trans q⟩
def isK (ks:List Bool)(i:Nat):Bool:=ks[i]?.getD false
def qBe (ks:List Bool):List Value:=ks.map .bool
theorem qD7 (ks:List Bool):(qBe ks).length=ks.length:=by simp[qBe]
theorem qQS (i:Int)(w:World):Calls prog 55 #[.int .i64 i] w fun e w'=>e= .returned (.bool true)∧w=w':=by
 go_enter func55,ntmps55
 go_wp2
 go_ret
 exact⟨rfl,rfl⟩
theorem qM0 (k:Nat)(B:Nat)(a:Option Addr)(c:Nat)(ks:List Bool)(hl:ks.length≤100000)(w:World)(h:w.cell? ⟨B,0,none⟩=some (.slice a ks.length c))(hs:Sl w (.slice a ks.length c) ks.length (qBe ks)):Calls prog 126 #[.int .i64 k,.pointer (some ⟨B,0,none⟩)] w fun e w'=>e= .returned (.bool (isK ks k))∧w=w':=by
 by_cases l:k<ks.length
 · have F:(k:Int)<(ks.length:Int):=by omega
   have I:(0:Int)≤(k:Int):=by omega
   obtain⟨b,off,cap,e,_,_,_,j⟩:=hs.at (by rw[qD7];omega)
   cases e
   have G:=j k (.bool ks[k]) (by simp[qBe,l])
   have f:isK ks k=ks[k]:=by simp[isK,l]
   rw[f]
   generalize ks[k]=q at *
   clear j
   go_enter func126,ntmps126
   go_wp2
   go_ret
   exact⟨rfl,rfl⟩
 · have F:¬(k:Int)<(ks.length:Int):=by omega
   have f:isK ks k=false:=by simp[isK,List.getElem?_eq_none (show ks.length≤k by omega)]
   rw[f]
   clear hs
   go_enter func126,ntmps126
   go_wp2
   go_ret
   exact⟨rfl,rfl⟩
theorem qS8 (is:Nat→Bool)(h:is=fun _=>true)(i:Nat)(w:World):Calls prog 55 #[.int .i64 i] w fun e w'=>e= .returned (.bool (is i))∧w=w':=by
 subst h;exact qQS i w
theorem qNk (is:Nat→Bool)(k:Nat)(B:Nat)(a:Option Addr)(c:Nat)(ks:List Bool)(hi:is=isK ks)(hl:ks.length≤100000)(w:World)(h:w.cell? ⟨B,0,none⟩=some (.slice a ks.length c))(hs:Sl w (.slice a ks.length c) ks.length (qBe ks)):Calls prog 126 #[.int .i64 k,.pointer (some ⟨B,0,none⟩)] w fun e w'=>e= .returned (.bool (is k))∧w=w':=by
 subst hi;exact qM0 k B a c ks hl w h hs
theorem qFf (K b gl cap:Nat)(ex:List Value)(vw vt:Value)(us ut:List Value)(s:Sd)(n m:Nat)(h0:0<n)(hn:n≤65536)(hm:m≤100000)(is:Nat→Bool)(w:World)(X:qFe w K b gl cap ex vw vt us ut s)(ok:s.ok n m)(his:is=fun _=>true) :
 Calls prog 54 #[.pointer (some ⟨K,0,none⟩),.func (.func 55) #[] #[]] w fun e w'=>e= .returned (.tuple #[])∧qFe w' K b gl cap ex (.slice none 0 0) vt [] ut { s with lasts:=qBy s.lasts s.waits is s.waits.length,waits:=[] }∧Chg [gl,K] w w':=by
 have a9:=qh his
 clear his
 obtain⟨wa,wc,G⟩:=X.wts.slice
 subst G
 obtain⟨n1,n2,n3,n4,n5,n6,n7⟩:=X.ne
 have HF:=qh ok.fit
 have a5:=ok.few
 have hcap:=X.hcap
 have HW:=qh ok.len
 rw[HW.out]at hcap
 have c2:=X.blk.cell 2
 have c1:=X.blk.cell 1
 have fK:=X.blk.free 2
 have i0:(s.waits.length:Int)≤100000:=by omega
 have i1:n≤cap:=by omega
 have I:K∉ [gl]:=by simpa using n3
 have b9:w.cell? ⟨K,1,none⟩=some (.slice (some ⟨gl,0,none⟩) n cap):=by rw[←HW.out];exact c1
 have Y:=qh (qCD s.lasts s.waits is (fun x hx=>by rw[HW.out];exact HF.out x hx))
 clear c1
 obtain⟨N,hN⟩:∃N,N=s.waits.length:=⟨_,rfl⟩
 have c6:w.cell? ⟨K,2,none⟩=some (.slice wa N wc):=by rw[hN];exact c2
 rw[←hN]at i0 a5
 have HN:=qh hN
 clear hN c2
 go_enter func54,ntmps54
 go_wp2_with fail
 go_loopw [11,5,4] (fun i _ _ wr=>∃k:Nat,k≤N∧i= .int .i64 k∧Blk wr gl (qA1 (qBy s.lasts s.waits is k)++ex).toArray 5∧Chg [gl] w wr) (fun i _ _ _=>N - (intOf i).toNat)
 case atStart=>exact⟨0,by omega,by go_num,X.lst,Chg.refl _ _⟩
 case round =>
  obtain⟨k,hk,rfl,f,c⟩:=hrel
  have d8:=c.cell c6 I
  have a0:=c.cell b9 I
  by_cases b7:k<N
  · have Z:k<s.waits.length:=by rw[←HN.out];exact b7
    have d5:(k:Int)<(N:Int):=by omega
    have d9:(0:Int)≤(k:Int):=by omega
    have a7:=X.wts.chg c (fun g h=>by simpa using (n4 g h).2.2) (fun u hu g h=>by simpa using (n6 u hu g h).2.2.1)
    obtain⟨g,c7,u,G,d7,d0,d1,q⟩:=a7.get k Z
    cases G
    obtain⟨x,hx⟩:∃x,x=s.waits[k]:=⟨_,rfl⟩
    rw[←hx]at d0 q
    have O:inB n x:=by rw[hx];exact HF.out _ (List.getElem_mem Z)
    have c3:=qh O
    obtain⟨d3,b8⟩:=O
    have a8:s.waits[k]?.getD (0,[])=x:=by rw[List.getElem?_eq_getElem Z,hx];rfl
    have a2:(qBy s.lasts s.waits is k).length=n:=by rw[Y.out k (by omega),HW.out]
    obtain⟨o,ho⟩:∃o:Nat,o=x.1.toNat:=⟨_,rfl⟩
    have a1:x.1=(o:Int):=by omega
    rw[←ho]at b8
    rw[a1]at d0
    obtain⟨au,cu,G⟩:=q.len
    subst G
    have m5:(o:Int)≤(n:Int):=by omega
    have m8:¬cap=o:=by omega
    have m9:¬cap - o=0:=by omega
    have m6:(n:Int)≤(cap:Int):=by omega
    have m7:(0:Int)≤(o:Int):=by omega
    have HO:=qh ho
    have HX:=qh hx
    have HL:=qh a2
    have b6:=qh a8
    have c9:=qh a1
    have c8:=f.lt
    have j:qA4 wr (wr.alloc (.cells #[.int .i64 (o:Int),.slice au x.2.length cu] 133)):=qal _
    have c0:=Blk.new wr #[.int .i64 (o:Int),.slice au x.2.length cu] 133
    have b5:wr.heap.size∉ [gl]:=by simp;omega
    replace f:=f.kept j
    replace q:=q.kept j
    replace a0:=j.at a0
    replace c:=c.trans (Chg.of_kept j)
    clear ho hx a2 a8 a1 j
    go_wp2_with fail
    generalize (wr.alloc (.cells #[.int .i64 (o:Int),.slice au x.2.length cu] 133))=wx at *
    refine(qS8 is a9.out k _).mono ?_
    rintro e w1 ⟨rfl,rfl⟩
    cases hq:is k
    · have F:qBy s.lasts s.waits is (k+1)=qBy s.lasts s.waits is k:=by rw[qBy,hq];rfl
      have V:=qh F
      clear F hq
      go_wp2
      exact⟨⟨k+1,by omega,by go_num,by rw[V.out];exact f,c⟩,by simp[intOf];omega⟩
    · have F:qBy s.lasts s.waits is (k+1)=qBV (qBy s.lasts s.waits is k) x:=by rw[qBy,hq,if_pos rfl,b6.out]
      have V:=qh F
      clear F hq
      go_wp2_with fail
      refine qAb [gl] [(0,0),(1,0),(2,0),(3,0),(4,0),(5,0),(6,0),(7,0),(8,0),(9,1)] (by kernel_rfl) (by kernel_rfl) ?_
      intro w2 l
      repeat
       refine qA0 _ rfl (fun K hK=>?_)
       first
        | (refine qqP (by rfl) ?_;apply Exists.intro;refine⟨fun w' a6=>?_,hK _ ?_⟩;(have bb:=a6.blk (c0.kept l) b5;have d6:=bb.cell 0;have d4:=bb.cell 1;clear bb;have kk:=a6.cell (l.at a0) I;go_simp;first|done|rfl))
        | refine qqN (by rfl) (hK _ ?_)
       clear hK K;simp only[Act.put,qqB]
      refine qqH _ rfl (by rfl) (fun K hK=>?_)
      obtain⟨w3,hr,a3,a4⟩:=qCn (P:=prog) (w:=w2) (dl:=n - o) (dc:=cap - o) (off:=o) qAx 3 (f.kept l) (q.kept l) (qA7 _) (qAP _) (by rw[List.length_append,qA7,HL.out];omega)
      go_wp2
      refine hK _ _ (a4) ?_
      clear hK K
      try simp only[Act.put,qqB]
      refine qA6 ?_
      have c5:Blk w3 gl (qA1 (qBy s.lasts s.waits is (k+1))++ex).toArray 5:=by
       have hl:=qEC (qBy s.lasts s.waits is k) ex x n HL.out.symm c3.out
       rw[←HO.out]at hl
       rw[hl,←V.out]at a3
       exact a3
      have b4:Chg [gl] w w3:=c.trans ((Chg.of_kept l).trans a4)
      go_wp2
      exact⟨⟨k+1,by omega,by go_num,c5,b4⟩,by simp[intOf];omega⟩
  · have b3:k=N:=by omega
    have HK:=qh b3
    clear b3
    have bK:=c.blk X.blk I
    have d2:=bK.free 2
    go_wp2
    go_end0
    have J:Chg [K] wr (wr.setCell ⟨K,2,none⟩ (.slice none 0 0)):=Chg.step (by simp) _
    rw[HK.out,HN.out]at f
    have tr:=X.trc.chg c (fun g h=>by simpa using (n5 g h).2.2) (fun u hu g h=>by simpa using (n7 u hu g h).2.2.1)
    refine⟨rfl,⟨?_,J.blk (c.blk X.pw (by simpa using n2)) (by simpa using n1),J.blk f (by simpa using n3.symm),?_,X.most,qB3.nil _,tr.chg J (fun g h=>by simpa using (n5 g h).2.1) (fun u hu g h=>by simpa using (n7 u hu g h).2.1),by simp,X.tne,by intro g h;cases h⟩,(c.mono (by simp)).trans (J.mono (by simp))⟩
    · have c4:=Y.out s.waits.length qle
      have:=bK.set 2 (.slice none 0 0)
      rw[←c4]at this
      simpa using this
    · rw[←X.hcap,←Y.out s.waits.length qle]
theorem qKb (K b gl cap:Nat)(ex:List Value)(vw vt:Value)(us ut:List Value)(s:Sd)(n m:Nat)(h0:0<n)(hn:n≤65536)(hm:m≤100000)(is:Nat→Bool)(B:Nat)(ka:Option Addr)(kc:Nat)(ks:List Bool)(kl:ks.length≤100000)(w:World)(X:qFe w K b gl cap ex vw vt us ut s)(ok:s.ok n m)(his:is=isK ks)(hB:w.cell? ⟨B,0,none⟩=some (.slice ka ks.length kc))(hks:Sl w (.slice ka ks.length kc) ks.length (qBe ks))(hBg:B∉ [gl])(hkg:∀a c,Value.slice ka ks.length kc= .slice (some a) ks.length c→0<(qBe ks).length→a.block∉ [gl]) :
 Calls prog 54 #[.pointer (some ⟨K,0,none⟩),.func (.func 126) #[] #[.pointer (some ⟨B,0,none⟩)]] w fun e w'=>e= .returned (.tuple #[])∧qFe w' K b gl cap ex (.slice none 0 0) vt [] ut { s with lasts:=qBy s.lasts s.waits is s.waits.length,waits:=[] }∧Chg [gl,K] w w':=by
 have b3:=qh his
 clear his
 obtain⟨wa,wc,I⟩:=X.wts.slice
 subst I
 obtain⟨n1,n2,n3,n4,n5,n6,n7⟩:=X.ne
 have HF:=qh ok.fit
 have a6:=ok.few
 have hcap:=X.hcap
 have HW:=qh ok.len
 rw[HW.out]at hcap
 have c2:=X.blk.cell 2
 have c1:=X.blk.cell 1
 have fK:=X.blk.free 2
 have i0:(s.waits.length:Int)≤100000:=by omega
 have i1:n≤cap:=by omega
 have J:K∉ [gl]:=by simpa using n3
 have c0:w.cell? ⟨K,1,none⟩=some (.slice (some ⟨gl,0,none⟩) n cap):=by rw[←HW.out];exact c1
 have Z:=qh (qCD s.lasts s.waits is (fun x hx=>by rw[HW.out];exact HF.out x hx))
 clear c1
 obtain⟨N,hN⟩:∃N,N=s.waits.length:=⟨_,rfl⟩
 have c7:w.cell? ⟨K,2,none⟩=some (.slice wa N wc):=by rw[hN];exact c2
 rw[←hN]at i0 a6
 have HN:=qh hN
 clear hN c2
 go_enter func54,ntmps54
 go_wp2_with fail
 go_loopw [11,5,4] (fun i _ _ wr=>∃k:Nat,k≤N∧i= .int .i64 k∧Blk wr gl (qA1 (qBy s.lasts s.waits is k)++ex).toArray 5∧Chg [gl] w wr) (fun i _ _ _=>N - (intOf i).toNat)
 case atStart=>exact⟨0,by omega,by go_num,X.lst,Chg.refl _ _⟩
 case round =>
  obtain⟨k,hk,rfl,h,f⟩:=hrel
  have d9:=f.cell c7 J
  have a1:=f.cell c0 J
  by_cases b8:k<N
  · have a0:k<s.waits.length:=by rw[←HN.out];exact b8
    have d6:(k:Int)<(N:Int):=by omega
    have e0:(0:Int)≤(k:Int):=by omega
    have a8:=X.wts.chg f (fun g j=>by simpa using (n4 g j).2.2) (fun u hu g j=>by simpa using (n6 u hu g j).2.2.1)
    obtain⟨g,c8,u,I,d8,d0,d1,F⟩:=a8.get k a0
    cases I
    obtain⟨x,hx⟩:∃x,x=s.waits[k]:=⟨_,rfl⟩
    rw[←hx]at d0 F
    have V:inB n x:=by rw[hx];exact HF.out _ (List.getElem_mem a0)
    have c4:=qh V
    obtain⟨d4,b9⟩:=V
    have a9:s.waits[k]?.getD (0,[])=x:=by rw[List.getElem?_eq_getElem a0,hx];rfl
    have a3:(qBy s.lasts s.waits is k).length=n:=by rw[Z.out k (by omega),HW.out]
    obtain⟨o,ho⟩:∃o:Nat,o=x.1.toNat:=⟨_,rfl⟩
    have a2:x.1=(o:Int):=by omega
    rw[←ho]at b9
    rw[a2]at d0
    obtain⟨au,cu,I⟩:=F.len
    subst I
    have m5:(o:Int)≤(n:Int):=by omega
    have m8:¬cap=o:=by omega
    have m9:¬cap - o=0:=by omega
    have m6:(n:Int)≤(cap:Int):=by omega
    have m7:(0:Int)≤(o:Int):=by omega
    have HO:=qh ho
    have HX:=qh hx
    have HL:=qh a3
    have b7:=qh a9
    have d2:=qh a2
    have c9:=h.lt
    have l:qA4 wr (wr.alloc (.cells #[.int .i64 (o:Int),.slice au x.2.length cu] 133)):=qal _
    have c3:=Blk.new wr #[.int .i64 (o:Int),.slice au x.2.length cu] 133
    have b6:wr.heap.size∉ [gl]:=by simp;omega
    replace h:=h.kept l
    replace F:=F.kept l
    replace a1:=l.at a1
    replace f:=f.trans (Chg.of_kept l)
    clear ho hx a3 a9 a2 l
    go_wp2_with fail
    generalize (wr.alloc (.cells #[.int .i64 (o:Int),.slice au x.2.length cu] 133))=wx at *
    refine(qNk is k B ka kc ks b3.out kl _ (f.cell hB hBg) (Chg.sl hks f hkg)).mono ?_
    rintro e w1 ⟨rfl,rfl⟩
    cases hq:is k
    · have G:qBy s.lasts s.waits is (k+1)=qBy s.lasts s.waits is k:=by rw[qBy,hq];rfl
      have Y:=qh G
      clear G hq
      go_wp2
      exact⟨⟨k+1,by omega,by go_num,by rw[Y.out];exact h,f⟩,by simp[intOf];omega⟩
    · have G:qBy s.lasts s.waits is (k+1)=qBV (qBy s.lasts s.waits is k) x:=by rw[qBy,hq,if_pos rfl,b7.out]
      have Y:=qh G
      clear G hq
      go_wp2_with fail
      refine qAb [gl] [(0,0),(1,0),(2,0),(3,0),(4,0),(5,0),(6,0),(7,0),(8,0),(9,1)] (by kernel_rfl) (by kernel_rfl) ?_
      intro w2 q
      repeat
       refine qA0 _ rfl (fun K hK=>?_)
       first
        | (refine qqP (by rfl) ?_;apply Exists.intro;refine⟨fun w' a7=>?_,hK _ ?_⟩;(have bb:=a7.blk (c3.kept q) b6;have d7:=bb.cell 0;have d5:=bb.cell 1;clear bb;have kk:=a7.cell (q.at a1) J;go_simp;first|done|rfl))
        | refine qqN (by rfl) (hK _ ?_)
       clear hK K;simp only[Act.put,qqB]
      refine qqH _ rfl (by rfl) (fun K hK=>?_)
      obtain⟨w3,hr,a4,a5⟩:=qCn (P:=prog) (w:=w2) (dl:=n - o) (dc:=cap - o) (off:=o) qAx 3 (h.kept q) (F.kept q) (qA7 _) (qAP _) (by rw[List.length_append,qA7,HL.out];omega)
      go_wp2
      refine hK _ _ (a5) ?_
      clear hK K
      try simp only[Act.put,qqB]
      refine qA6 ?_
      have c6:Blk w3 gl (qA1 (qBy s.lasts s.waits is (k+1))++ex).toArray 5:=by
       have hl:=qEC (qBy s.lasts s.waits is k) ex x n HL.out.symm c4.out
       rw[←HO.out]at hl
       rw[hl,←Y.out]at a4
       exact a4
      have b5:Chg [gl] w w3:=f.trans ((Chg.of_kept q).trans a5)
      go_wp2
      exact⟨⟨k+1,by omega,by go_num,c6,b5⟩,by simp[intOf];omega⟩
  · have b4:k=N:=by omega
    have HK:=qh b4
    clear b4
    have bK:=f.blk X.blk J
    have d3:=bK.free 2
    go_wp2
    go_end0
    have O:Chg [K] wr (wr.setCell ⟨K,2,none⟩ (.slice none 0 0)):=Chg.step (by simp) _
    rw[HK.out,HN.out]at h
    have tr:=X.trc.chg f (fun g j=>by simpa using (n5 g j).2.2) (fun u hu g j=>by simpa using (n7 u hu g j).2.2.1)
    refine⟨rfl,⟨?_,O.blk (f.blk X.pw (by simpa using n2)) (by simpa using n1),O.blk h (by simpa using n3.symm),?_,X.most,qB3.nil _,tr.chg O (fun g j=>by simpa using (n5 g j).2.1) (fun u hu g j=>by simpa using (n7 u hu g j).2.1),by simp,X.tne,by intro g j;cases j⟩,(f.mono (by simp)).trans (O.mono (by simp))⟩
    · have c5:=Z.out s.waits.length qle
      have:=bK.set 2 (.slice none 0 0)
      rw[←c5]at this
      simpa using this
    · rw[←X.hcap,←Z.out s.waits.length qle]
theorem qL6 (A:Nat→Prop)(K b:Nat)(s:Sd)(n m:Nat)(h0:0<n)(hn:n≤65536)(hm:m≤100000)(w:World)(h:qGP A w K b s)(ok:s.ok n m):Calls prog 29 #[.pointer (some ⟨K,0,none⟩)] w fun e w'=>∃g c,e= .returned (.slice (some ⟨g,0,none⟩) n c)∧w'.ownsRow w.heap.size 5 1 (.slice (some ⟨g,0,none⟩) n c) n (qA1 s.snap)∧qA4 w w':=by
 obtain⟨gl,cap,ex,vw,vt,us,ut,X,O,hA⟩:=h
 obtain⟨wa,wc,q⟩:=X.wts.slice
 subst q
 have c1:=X.blk.cell 1
 have c7:s.lasts.length≤65536:=by rw[ok.len];omega
 have HW:=qh ok.len
 have J:=ok.fit
 have c9:=ok.few
 have a9:Sl w (.slice (some ⟨gl,0,none⟩) s.lasts.length cap) s.lasts.length (qA1 s.lasts):=by
  have hcap:=X.hcap
  have a2:=X.most
  refine Sl.mk (by omega) a2 fun j u hj=>?_
  have c5:=(List.getElem?_eq_some_iff.1 hj).1
  rw[Nat.zero_add,X.lst.cell j]
  simpa [List.getElem?_append_left c5] using hj
 go_enter func29,ntmps29
 go_wp2_with fail
 refine(qAZ _ s.lasts (by omega) _ a9).mono ?_
 rintro e w1 ⟨vb,rfl,f,a3⟩
 rw[HW.out]at f
 obtain⟨gb,cb,q⟩:=qAy f h0
 subst q
 have b4:=qAN f rfl
 obtain⟨F,b3,d7⟩:∃F,Blk w1 gb (qA1 s.lasts++F).toArray 5∧n+F.length=cb:=by
  rcases f.2 with ⟨e,_⟩|⟨g',cap',cur,e,_,hb,h1,_,h2,h3⟩
  · cases e
  · cases e
    rw[Nat.mul_one]at h2 h3
    refine⟨cur.toList.drop n,?_,by simp;omega⟩
    rw[←h3,List.take_append_drop]
    exact hb
 have X1:=X.kept a3
 have c2:=X1.blk.cell 2
 have i0:(s.waits.length:Int)≤100000:=by omega
 have i1:n≤cb:=by omega
 have b8:cb≤maxLen:=by
  rcases f.2 with ⟨e,_⟩|⟨g',cap',cur,e,_,hb,h1,h4,h2,h3⟩
  · cases e
  · cases e;exact h4
 clear f c1 a9
 obtain⟨N,hN⟩:∃N,N=s.waits.length:=⟨_,rfl⟩
 rw[←hN]at c2 i0
 have HN:=qh hN
 clear hN
 go_wp2_with fail
 go_loopw [18,5] (fun i _ wr=>∃k:Nat,k≤N∧i= .int .i64 k∧Blk wr gb (qA1 (qB5 s.lasts (s.waits.take k))++F).toArray 5∧qA4 w wr∧qFe wr K b gl cap ex (.slice wa s.waits.length wc) vt us ut s) (fun i _ _=>N - (intOf i).toNat)
 case atStart=>exact⟨0,by omega,by go_num,b3,a3,X1⟩
 case round =>
  obtain⟨k,hk,rfl,G,I,Xr⟩:=hrel
  clear b3 a3 X1 c2
  by_cases b7:k<N
  · have a4:k<s.waits.length:=by rw[←HN.out];exact b7
    have n3:(k:Int)<(N:Int):=by omega
    have n4:(0:Int)≤(k:Int):=by omega
    obtain⟨g,c8,u,q,d9,d0,d1,V⟩:=Xr.wts.get k a4
    cases q
    obtain⟨x,hx⟩:∃x,x=s.waits[k]:=⟨_,rfl⟩
    rw[←hx]at d0 V
    have a1:inB n x:=by rw[hx];exact J _ (List.getElem_mem a4)
    have c4:=qh a1
    obtain⟨d4,b9⟩:=a1
    have a0:qB5 s.lasts (s.waits.take (k+1))=qBV (qB5 s.lasts (s.waits.take k)) x:=by rw[List.take_succ_eq_append_getElem a4,qCr,hx]
    have l:(qB5 s.lasts (s.waits.take k)).length=n:=by
     rw[←HW.out]
     exact qCg _ _ (fun y hy=>by rw[HW.out];exact J y (List.mem_of_mem_take hy))
    obtain⟨o,ho⟩:∃o:Nat,o=x.1.toNat:=⟨_,rfl⟩
    have a5:x.1=(o:Int):=by omega
    rw[←ho]at b9
    rw[a5]at d0
    obtain⟨au,cu,q⟩:=V.len
    subst q
    have n5:(o:Int)≤(n:Int):=by omega
    have n8:¬cb=o:=by omega
    have n9:¬cb - o=0:=by omega
    have n6:(n:Int)≤(cb:Int):=by omega
    have n7:(0:Int)≤(o:Int):=by omega
    have HO:=qh ho
    have HX:=qh hx
    have HL:=qh l
    have HY:=qh a0
    have d3:=qh a5
    have d2:=G.lt
    have Y:qA4 wr (wr.alloc (.cells #[.int .i64 (o:Int),.slice au x.2.length cu] 133)):=qal _
    have c3:=Blk.new wr #[.int .i64 (o:Int),.slice au x.2.length cu] 133
    have b6:wr.heap.size∉ [gb]:=by simp;omega
    replace G:=G.kept Y
    replace Xr:=Xr.kept Y
    replace V:=V.kept Y
    replace I:=qA4.of I Y
    clear ho hx l a0 a5
    go_wp2_with fail
    generalize (wr.alloc (.cells #[.int .i64 (o:Int),.slice au x.2.length cu] 133))=wx at *
    refine qAb [gb] [(0,0),(1,0),(2,0),(3,0),(4,0),(5,0),(6,1)] (by kernel_rfl) (by kernel_rfl) ?_
    intro w2 Z
    repeat
     refine qA0 _ rfl (fun K hK=>?_)
     first
      | (refine qqP (by rfl) ?_;apply Exists.intro;refine⟨fun w' c0=>?_,hK _ ?_⟩;(have bb:=c0.blk (c3.kept Z) b6;have d8:=bb.cell 0;have d6:=bb.cell 1;clear bb;go_simp;first|done|rfl))
      | refine qqN (by rfl) (hK _ ?_)
     clear hK K;simp only[Act.put,qqB]
    refine qqH _ rfl (by rfl) (fun K hK=>?_)
    obtain⟨w3,hr,a6,a7⟩:=qCn (P:=prog) (w:=w2) (dl:=n - o) (dc:=cb - o) (off:=o) qAx 3 (G.kept Z) (V.kept Z) (qA7 _) (qAP _) (by rw[List.length_append,qA7,HL.out];omega)
    go_wp2
    refine hK _ _ (a7) ?_
    clear hK K
    try simp only[Act.put,qqB]
    refine qA6 ?_
    have a8:qA4 w w3:=I.trans (((Chg.of_kept Z).trans a7).below (by simpa using b4) I.size)
    have c6:Blk w3 gb (qA1 (qB5 s.lasts (s.waits.take (k+1)))++F).toArray 5:=by
     have hl:=qEC (qB5 s.lasts (s.waits.take k)) F x n HL.out.symm c4.out
     rw[←HO.out]at hl
     rw[hl,←HY.out]at a6
     exact a6
    have X3:=X.kept a8
    go_wp2
    exact⟨⟨k+1,by omega,by go_num,c6,a8,X3⟩,by simp[intOf];omega⟩
  · have b5:k=N:=by omega
    have HK:=qh b5
    clear b5
    have d5:=I.size
    go_wp2
    go_ret
    have l:(qB5 s.lasts s.waits).length=n:=by
     rw[←HW.out]
     exact qCg _ _ (fun y hy=>by rw[HW.out];exact J y hy)
    rw[HK.out,HN.out,List.take_length]at G
    refine⟨gb,cb,rfl,⟨by rw[qA7];show s.snap.length=_;rw[Sd.snap,l,Nat.mul_one],.inr ⟨gb,cb,_,rfl,b4,G,i1,b8,?_,?_⟩⟩,I⟩
    · simp[qA7,l];omega
    · rw[Nat.mul_one,List.take_append_of_le_length (by rw[qA7,l];exact Nat.le_refl _),List.take_of_length_le (by rw[qA7,l];exact Nat.le_refl _)]
      rfl
theorem qNl (A:Nat→Prop)(K b:Nat)(s:Sd)(n m:Nat)(h0:0<n)(hn:n≤65536)(hm:m≤100000)(w:World)(h:qGP A w K b s)(ok:s.ok n m)(v:Value)(ks:List Bool)(kl:ks.length≤100000)(hks:Sl w v ks.length (qBe ks))(hA:∀a c,v= .slice (some a) ks.length c→0<(qBe ks).length→A a.block) :
 Calls prog 82 #[.pointer (some ⟨K,0,none⟩),v] w fun e w'=>e= .returned (.tuple #[])∧qGP A w' K b { s with lasts:=qBy s.lasts s.waits (isK ks) s.waits.length,waits:=[] }∧qA8 A w w':=by
 obtain⟨q,l,Z⟩:=hks.len
 subst Z
 obtain⟨gl,cap,ex,vw,vt,us,ut,X,O,I⟩:=h
 have f:qA4 w (w.alloc (.cells #[.slice q ks.length l] 35)):=qal _
 have N:=Blk.new w #[.slice q ks.length l] 35
 have low:=X.low
 have G:∀a c,Value.slice q ks.length l= .slice (some a) ks.length c→0<(qBe ks).length→a.block∉ [gl]:=fun a c e hl F=>by
  have:=hA a c e hl
  rw[List.mem_singleton.1 F]at this
  exact O.gl this
 go_enter func82,ntmps82
 go_wp2_with fail
 refine(qKb K b gl cap ex vw vt us ut s n m h0 hn hm (isK ks) w.heap.size q l ks kl _ (X.kept f) ok rfl (N.cell 0) (hks.kept f) (by simp;omega) G).mono ?_
 rintro e w2 ⟨rfl,V,Y⟩
 go_wp2
 go_end0
 have j:=(qA8.of_kept f).trans (qA8.of_chg Y (by intro x J;simp at J;rcases J with rfl|rfl;exact O.gl;exact O.K))
 exact⟨rfl,⟨gl,cap,ex,_,_,_,_,V,⟨O.K,O.b,O.gl,(by intro g hg;cases hg),O.vt,by simp,O.ut⟩,fun k ha=>Nat.lt_of_lt_of_le (I k ha) j.size⟩,j⟩
theorem qNm (A:Nat→Prop)(K b:Nat)(s:Sd)(n m:Nat)(h0:0<n)(hn:n≤65536)(hm:m≤100000)(w:World)(h:qGP A w K b s)(ok:s.ok n m)(o:Nat)(v:Value)(bs:List UInt8)(hin:inB n ((o:Int),bs))(hs:Sl w v bs.length (qA1 bs))(hA:∀a c,v= .slice (some a) bs.length c→0<(qA1 bs).length→A a.block) :
 Calls prog 28 #[.pointer (some ⟨K,0,none⟩),.int .i64 o,v] w fun e w'=>e= .returned (.bool true)∧qGP A w' K b { s with lasts:=qBV s.snap ((o:Int),bs),waits:=[] }∧qA8 A w w':=by
 obtain⟨a,c,he⟩:=hs.len
 subst he
 obtain⟨gl,cap,ex,vw,vt,us,ut,X,O,a4⟩:=h
 have c1:w.cell? ⟨K,1,none⟩=some (.slice (some ⟨gl,0,none⟩) n cap):=by have:=X.blk.cell 1;rw[ok.len]at this;exact this
 have V:=qQj hin
 have J:=Sd.snap_length ok
 have hcap:=X.hcap
 rw[ok.len]at hcap
 have a1:=X.most
 go_enter func28,ntmps28
 go_wp2_with fail
 refine(qCT K _ n _ (by omega) o bs.length _ c1).mono ?_
 rintro e w1 ⟨rfl,rfl⟩
 rw[V]
 have a8:=qh V
 have a2:=qh ok
 clear V ok
 go_wp2_with fail
 refine(qFf K b gl cap ex vw vt us ut s n m h0 hn hm (fun _=>true) _ X a2.out rfl).mono ?_
 rintro e w2 ⟨rfl,j,c2⟩
 rw[qEB _ _ _ qle,List.take_length]at j
 have N:qA8 A _ w2:=qA8.of_chg c2 (by intro x hx;simp at hx;rcases hx with rfl|rfl;exact O.gl;exact O.K)
 obtain⟨n1,n2,n3,n4,n5,n6,n7⟩:=j.ne
 have a5:=N.sl hs hA
 have k1:w2.cell? ⟨K,1,none⟩=some (.slice (some ⟨gl,0,none⟩) n cap):=by
  have:=j.blk.cell 1
  rw[show({ s with lasts:=qB5 s.lasts s.waits,waits:=[] }:Sd).lasts.length=n from J]at this
  exact this
 obtain⟨Y,F,I⟩:=hin
 have a7:o<n:=by simpa using F
 have a6:o+bs.length≤n:=by simpa using I
 have HI:=qh (show inB n ((o:Int),bs) from⟨Y,F,I⟩)
 have f:=qh J
 clear J Y F I
 have m5:(o:Int)≤(n:Int):=by omega
 have m8:¬cap=o:=by omega
 have m9:¬cap - o=0:=by omega
 have m6:(n:Int)≤(cap:Int):=by omega
 have m7:(0:Int)≤(o:Int):=by omega
 obtain⟨w3,hr,a0,l⟩:=qCn (P:=prog) (w:=w2) (dl:=n - o) (dc:=cap - o) (off:=o) qAx 3 j.lst a5 (qA7 _) (qAP _) (by rw[List.length_append,qA7];show _≤(qB5 s.lasts s.waits).length+_;have:=f.out;unfold Sd.snap at this;omega)
 go_wp2
 go_ret
 have hl:=qEC (qB5 s.lasts s.waits) ex ((o:Int),bs) n f.out.symm HI.out
 have a3:Blk w3 gl (qA1 (qBV s.snap ((o:Int),bs))++ex).toArray 5:=by
  show Blk w3 gl (qA1 (qBV (qB5 s.lasts s.waits) ((o:Int),bs))++ex).toArray _
  rw[←hl]
  exact a0
 have q:(qBV s.snap ((o:Int),bs)).length=n:=by rw[qBW _ _ (by rw[f.out];exact HI.out),f.out]
 have Z:qA8 A w2 w3:=qA8.of_chg l (by simpa using O.gl)
 refine⟨rfl,⟨gl,cap,ex,_,_,_,_,⟨?_,l.blk j.pw (by simpa using n2),a3,?_,j.most,qB3.nil _,j.trc.chg l (fun g G=>by simpa using (n5 g G).2.2) (fun u hu g G=>by simpa using (n7 u hu g G).2.2.1),by simp,j.tne,(by intro g G;cases G)⟩,⟨O.K,O.b,O.gl,(by intro g G;cases G),O.vt,by simp,O.ut⟩,fun k ha=>Nat.lt_of_lt_of_le (a4 k ha) (N.trans Z).size⟩,N.trans Z⟩
 · have:=l.blk j.blk (by simpa using n3)
   rw[show({ s with lasts:=qB5 s.lasts s.waits,waits:=[] }:Sd).lasts.length=n from f.out]at this
   show Blk _ _ #[_,.slice _ (qBV s.snap ((o:Int),bs)).length _,_,_] _
   rw[q];exact this
 · show(qBV s.snap ((o:Int),bs)).length+ex.length=cap
   rw[q];exact hcap
theorem qL7 {w:World}{B n g c:Nat}{bs:List UInt8}(h:w.ownsRow B 5 1 (.slice (some ⟨g,0,none⟩) n c) n (qA1 bs)):∃ex,Blk w g (qA1 bs++ex).toArray 5∧n+ex.length=c∧bs.length=n∧B≤g∧c≤maxLen:=by
 have hl:=h.1
 rw[qA7,Nat.mul_one]at hl
 rcases h.2 with ⟨e,_⟩|⟨g',cap',cur,e,hB,hb,h1,h4,h2,h3⟩
 · cases e
 · cases e
   rw[Nat.mul_one]at h2 h3
   refine⟨cur.toList.drop n,?_,by simp;omega,hl,hB,h4⟩
   rw[←h3,List.take_append_drop]
   exact hb
def Sd.barred (s:Sd)(r:Bool)(p':Pw):Sd:=if r then⟨p',s.snap,[],s.trace++ [(-1,[])]⟩ else { s with p:=p' }
theorem qKc (A:Nat→Prop)(K b:Nat)(s:Sd)(n m:Nat)(h0:0<n)(hn:n≤65536)(hm:m≤99999)(w:World)(h:qGP A w K b s)(ok:s.ok n m)(r:Bool)(p':Pw)(hsp:s.p.spend=(r,p')) :
 Calls prog 175 #[.pointer (some ⟨K,0,none⟩)] w fun e w'=>e= .returned (.bool r)∧qGP A w' K b (s.barred r p')∧qA8 A w w':=by
 obtain⟨gl,cap,ex,vw,vt,us,ut,X,O,N⟩:=h
 have c0:=X.blk.cell 0
 have a6:s.p.ok 9223372036854775806:=qE9 ok.pw (by omega)
 go_enter func175,ntmps175
 go_wp2_with fail
 refine(qAK b s.p p' r _ X.pw a6 hsp).mono ?_
 rintro e w1 ⟨rfl,p1,V⟩
 have V:=Chg.of_grown V
 have X1:=X.power V p1
 have f:=O.same V
 cases r
 · go_wp2
   go_ret
   exact⟨rfl,⟨gl,cap,ex,vw,vt,us,ut,X1,O,fun k ha=>Nat.lt_of_lt_of_le (N k ha) V.size⟩,f⟩
 · have b4:p'.ok (m+1:Int):=by have:=qHH ok.pw;rw[hsp]at this;exact this
   have a7:({ s with p:=p' }:Sd).ok n (m+1):=⟨ok.len,ok.fit,ok.fitp,by have:=ok.few;show s.waits.length≤_;omega,by have:=ok.done;show s.trace.length≤_;omega,by simpa using b4⟩
   go_wp2_with fail
   refine(qFf K b gl cap ex vw vt us ut { s with p:=p' } n (m+1) h0 hn (by omega) (fun _=>true) _ X1 a7 rfl).mono ?_
   rintro e G ⟨rfl,F,c2⟩
   rw[qEB _ _ _ qle,List.take_length]at F
   have a0:qA8 A w1 G:=qA8.of_chg c2 (by intro x hx;simp at hx;rcases hx with rfl|rfl;exact O.gl;exact O.K)
   obtain⟨ta,tc,J⟩:=F.trc.slice
   subst J
   have a4:qA4 G (G.alloc (.cells #[.int .i64 (-1),.slice none 0 0] 133)):=qal _
   have c3:=F.blk.cell 3
   have a3:=F.trc.row.alloc (.cells #[.int .i64 (-1),.slice none 0 0] 133)
   have b5:=ok.done
   have a5:K∉(Value.slice ta s.trace.length tc).ownBlock.toList:=fun h=>((F.ne).2.2.2.2.1 K (qAt.1 h)).2.1 rfl
   clear c0
   go_wp2_with (at_builtin;refine qBb qHa rfl (by rfl) (by rfl) (by rfl) a3 (Sl.lit _ #[.int .i64 (-1),.slice none 0 0] _ 1 (by decide)) (by rfl) (by intro u hu;simp at hu;rcases hu with rfl|rfl<;>rfl) (by show s.trace.length+1≤maxLen;unfold maxLen;omega) (by show(s.trace.length+1)*32≤140737488355328;omega) (Nat.zero_le _) ?_;intro v3 w3 c a2 Y _;obtain⟨g3,l,J⟩:=qAy c (by omega);subst J;have I:=(Chg.of_kept a4 (bs:=(Value.slice ta s.trace.length tc).ownBlock.toList)).trans a2.chgL;have Z:=I.blk F.blk a5;have fK:=Z.free 3;have eK:=Z.cell 3)
   go_ret
   have hz:(G.alloc (.cells #[.int .i64 (-1),.slice none 0 0] 133)).heap.size=G.heap.size+1:=by simp
   have a1:∀g,(Value.slice (some ⟨g3,0,none⟩) (s.trace.length+1) l).ownBlock=some g→(Value.slice ta s.trace.length tc).ownBlock=some g∨G.heap.size≤g:=fun g j=>by
    rcases Y with e|e
    · left;rw[←e];exact j
    · right
      have h3:=Option.some.inj (j.symm.trans e)
      omega
   have X3:=qFe.pushT (x:=(-1,[])) F I c (World.ownsRow_nil _ _ _ _) a1
   have a8:Chg [K] w3 (w3.setCell ⟨K,3,none⟩ (.slice (some ⟨g3,0,none⟩) (s.trace.length+1) l)):=Chg.step (by simp) _
   have a9:=(qA8.of_chg (A:=A) I (fun g j=>O.vt g (qAt.1 j))).trans (O.sameK a8)
   have q:=(f.trans a0).trans a9
   have b3:∀k,A k→k<G.heap.size:=fun k ha=>Nat.lt_of_lt_of_le (N k ha) (f.trans a0).size
   have O3:=Off.setT (u6:=.slice none 0 0) (⟨O.K,O.b,O.gl,(by intro g j;cases j),O.vt,by simp,O.ut⟩:Off A K b gl (.slice none 0 0) (.slice ta s.trace.length tc) [] ut) b3 a1 (by intro g j;cases j)
   exact⟨rfl,⟨gl,cap,ex,_,_,_,_,X3,O3,fun k ha=>Nat.lt_of_lt_of_le (N k ha) q.size⟩,q⟩
theorem qPe (A:Nat→Prop)(K b:Nat)(s:Sd)(n m:Nat)(h0:0<n)(hn:n≤65536)(hm:m≤100000)(w:World)(h:qGP A w K b s)(ok:s.ok n m)(o len:Nat)(hol:o+len≤n)(ho:o<n)(hg:s.p.gone=false) :
 Calls prog 101 #[.pointer (some ⟨K,0,none⟩),.int .i64 o,.int .i64 len] w fun e w'=>∃g c ex,e= .returned (.tuple #[.slice (some ⟨g,o,none⟩) len (c - o),.bool true])∧Blk w' g (qA1 s.snap++ex).toArray 5∧n+ex.length=c∧w.heap.size≤g∧c≤maxLen∧qA4 w w':=by
 obtain⟨gl,cap,ex,vw,vt,us,ut,X,O,I⟩:=h
 have hS:qGP A w K b s:=⟨gl,cap,ex,vw,vt,us,ut,X,O,I⟩
 have Y:=X.blk.cell 0
 have J:w.cell? ⟨K,1,none⟩=some (.slice (some ⟨gl,0,none⟩) n cap):=by have:=X.blk.cell 1;rw[ok.len]at this;exact this
 have j:isB n o len=true:=by simp[isB];omega
 have f:=qD2 b s.p _ X.pw
 rw[hg]at f
 go_enter func101,ntmps101
 go_wp2_with fail
 refine(qCT K _ n _ (by omega) o len _ J).mono ?_
 rintro e w1 ⟨rfl,rfl⟩
 rw[j]
 have a0:=qh j
 clear j
 go_wp2_with fail
 refine f.mono ?_
 rintro e w1 ⟨rfl,rfl⟩
 go_wp2_with fail
 refine(qL6 A K b s n m h0 hn hm _ hS ok).mono ?_
 rintro e w2 ⟨g,c,rfl,l,Z⟩
 obtain⟨q,N,V,a1,G,F⟩:=qL7 l
 have n1:(o:Int)≤(o:Int)+(len:Int):=by omega
 have n2:(o:Int)+(len:Int)≤(c:Int):=by omega
 have n3:¬c=o:=by omega
 have n4:¬c - o=0:=by omega
 have n5:IntKind.i64.wrap ((o:Int)+(len:Int))=(o:Int)+(len:Int):=IntWalk.i64_in _ (by omega)
 have n6:(0:Int)≤(o:Int):=by omega
 have n7:(o:Int)≤(c:Int):=by omega
 clear f Y J
 go_wp2
 go_ret2
 refine⟨g,c,q,?_,N,V,G,F,Z⟩
 congr 3;first|omega|(simp;omega)|simp
theorem qPf (A:Nat→Prop)(K b:Nat)(s:Sd)(n m:Nat)(h0:0<n)(hn:n≤65536)(w:World)(h:qGP A w K b s)(ok:s.ok n m)(v:Value)(bs:List UInt8)(hbs:bs.length=n)(hs:Sl w v bs.length (qA1 bs)) :
 Calls prog 57 #[.pointer (some ⟨K,0,none⟩),v] w fun e w'=>e= .returned (.bool true)∧qGP A w' K b { s with lasts:=bs,waits:=[] }∧qA8 A w w'∧Chg [K] w w':=by
 obtain⟨a,c,he⟩:=hs.len
 subst he
 obtain⟨gl,cap,ex,vw,vt,us,ut,X,O,Y⟩:=h
 have c1:w.cell? ⟨K,1,none⟩=some (.slice (some ⟨gl,0,none⟩) n cap):=by have:=X.blk.cell 1;rw[ok.len]at this;exact this
 rw[hbs]at hs ⊢
 have V:qA4 w (w.alloc (.cells #[] 5)):=qal _
 have ho:(w.alloc (.cells #[] 5)).ownsRow w.heap.size 5 1 (.slice (some ⟨w.heap.size,0,none⟩) 0 0) 0 (qA1 []):=qCB 0 (by decide) 5 [] rfl (Blk.new _ _ _) qle
 have h2:=hs.kept V
 have N:(qA1 bs).length=n:=by rw[qA7,hbs]
 go_enter func57,ntmps57
 go_wp2_with fail
 refine(qDP K _ n _ _ c1).mono ?_
 rintro e w1 ⟨rfl,rfl⟩
 go_wp2_with (at_builtin;refine qAw qAx rfl (by rfl) (by rfl) (by rfl) ho h2 (by rw[N,Nat.mul_one]) (qAP bs) (by unfold maxLen;omega) (by omega) (by simp) ?_;intro v3 Z j a0 a7;obtain⟨g3,f,a4⟩:=qAy j (by omega);subst a4;have G:qA4 _ Z:=qAF V ho a0 (by simp);have l:=X.kept G;have e1:=l.blk.cell 1;have f1:=l.blk.free 1;have e2:=l.blk.cell 2;have f2:=l.blk.free 2)
 go_ret
 obtain⟨I,hB,a3,_,a6,a1⟩:=qL7 (n:=n) (bs:=bs) (by simpa [qA1] using j)
 obtain⟨n1,n2,n3,n4,n5,n6,n7⟩:=l.ne
 have a2:K≠g3:=qAE l.blk hB (by decide)
 have J:Chg [K] Z ((Z.setCell ⟨K,1,none⟩ (.slice (some ⟨g3,0,none⟩) n f)).setCell ⟨K,2,none⟩ (.slice none 0 0)):=((Chg.refl [K] Z).set (by simp) 1 _).set (by simp) 2 _
 have q:qA8 A w _:=(qA8.of_kept G).trans (O.sameK J)
 refine⟨rfl,⟨g3,f,I,_,_,_,_,⟨?_,J.blk l.pw (by simpa using n1),J.blk hB (by simpa using a2.symm),?_,a1,qB3.nil _,l.trc.chg J (fun g F=>by simpa using (n5 g F).2.1) (fun u hu g F=>by simpa using (n7 u hu g F).2.1),by simp,fun u hu e=>?_,(by intro g F;cases F)⟩,⟨O.K,O.b,fun ha=>by have:=Y _ ha;omega,(by intro g F;cases F),O.vt,by simp,O.ut⟩,fun k ha=>Nat.lt_of_lt_of_le (Y k ha) q.size⟩,q,(Chg.of_kept G).trans J⟩
 · have:=(l.blk.set 1 (.slice (some ⟨g3,0,none⟩) n f)).set 2 (.slice none 0 0)
   show Blk _ _ #[_,.slice _ bs.length _,_,_] _
   rw[hbs]
   simpa using this
 · show bs.length+I.length=f
   rw[hbs];exact a3
 · obtain⟨cc,a5⟩:=X.trc.blk hu e
   have:=a5.lt
   omega
def isD (i:Int):Bool:=decide (0≤i)&&decide (i<32)
theorem qKd (K:Nat)(i:Int)(w:World):Calls prog 156 #[.pointer (some ⟨K,0,none⟩),.int .i64 i] w fun e w'=>e= .returned (.bool (isD i))∧w=w':=by
 by_cases c:0≤i
 · by_cases f:i<32
   · rw[show isD i=true by simp[isD];omega]
     go_enter func156,ntmps156
     go_wp2
     go_ret
     exact⟨rfl,rfl⟩
   · rw[show isD i=false by simp[isD];omega]
     go_enter func156,ntmps156
     go_wp2
     go_ret
     exact⟨rfl,rfl⟩
 · rw[show isD i=false by simp[isD];omega]
   go_enter func156,ntmps156
   go_wp2
   go_ret
   exact⟨rfl,rfl⟩
theorem qL8 (b:Nat)(p:Pw)(A:Nat→Prop)(w:World)(hA:∀k,A k→k<w.heap.size)(hb:¬A b)(hp:qD1 w b p):Calls prog 39 #[.pointer (some ⟨b,0,none⟩)] w fun e w'=>∃K,e= .returned (.pointer (some ⟨K,0,none⟩))∧qJH A w' K b ⟨p,List.replicate 32 (List.replicate 32 0),[],[],false⟩∧qA4 w w':=by
 obtain⟨Z,hZ⟩:∃Z,Z=List.replicate 32 (0:UInt8):=⟨_,rfl⟩
 have b3:∀w:World,(Instr.makeSlice 32 (.int .i64 32) (.int .i64 32)).run prog w= .ok (.slice (some ⟨w.heap.size,0,none⟩) 32 32) (w.alloc (.cells (qA1 Z).toArray 5)):=fun w=>by rw[hZ];exact qBU (P:=prog) w qAx .i64 .i64 32 (by omega)
 have a4:Z.length=32:=by rw[hZ];simp
 rw[←hZ]
 have N:=qh a4
 clear hZ a4
 have a3:=Blk.new w (qBh b (List.replicate 32 (.slice none 0 0)) (.slice none 0 0) (.slice none 0 0) false) 137
 have V:qA4 w (w.alloc (.cells (qBh b (List.replicate 32 (.slice none 0 0)) (.slice none 0 0) (.slice none 0 0) false) 137)):=qal _
 go_enter func39,ntmps39
 go_wp2_with fail
 go_loopw [8,4] (fun i _ wr=>∃k:Nat,k≤32∧i= .int .i64 k∧∃ls:List Value,ls.length=32∧Blk wr w.heap.size (qBh b ls (.slice none 0 0) (.slice none 0 0) false) 137∧qA4 w wr∧(∀j,j<k→∃u,ls[j]? = some u∧wr.ownsRow w.heap.size 5 1 u 32 (qA1 Z))) (fun i _ _=>32 - (intOf i).toNat)
 case atStart=>exact⟨0,by omega,rfl,List.replicate 32 (.slice none 0 0),by simp,a3,V,fun j h=>absurd h (by omega)⟩
 case round =>
  obtain⟨k,hk,rfl,ls,hl,hB,l,hz⟩:=hrel
  clear a3 V
  by_cases a6:k<32
  · have n1:(k:Int)<32:=by omega
    have n2:(0:Int)≤(k:Int):=by omega
    have F:=qh hl
    have a5:=l.size
    go_wp2_with fail
    refine qDZ (w.heap.size) [(0,0),(1,0),(3,0),(4,0),(2,1),(5,0),(6,1)] (by kernel_rfl) (by kernel_rfl) ?_
    intro c q
    repeat
     refine qA0 _ rfl (fun K f=>?_)
     first
      | (refine qqP (by rfl) ?_;apply Exists.intro;refine⟨fun w' a9=>?_,f _ ?_⟩;go_simp;first|done|rfl)
      | refine qqN (by rfl) (f _ ?_)
     clear f K;simp only[Act.put,qqB]
    refine qqH _ rfl (by rfl) (fun K f=>?_)
    have a2:w.heap.size≤c.heap.size:=Nat.le_trans a5 q.size
    go_wp2
    refine f _ _ ((Below.refl _ c).alloc a2 _) ?_
    clear f K
    try simp only[Act.put,qqB]
    repeat
     refine qA0 _ rfl (fun K f=>?_)
     first
      | (refine qqP (by rfl) ?_;apply Exists.intro;refine⟨fun w' a9=>?_,f _ ?_⟩;go_simp;first|done|rfl)
      | refine qqN (by rfl) (f _ ?_)
     clear f K;simp only[Act.put,qqB]
    refine qqH _ rfl (by rfl) (fun K f=>?_)
    have O:=(hB.kept q).alloc (.cells (qA1 Z).toArray 5)
    have ff:=O.free (1+k)
    obtain⟨cv,cc⟩:∃cv,(c.alloc (.cells (qA1 Z).toArray 5)).cell? ⟨w.heap.size,1+k,none⟩=some cv:=by
     rw[O.cell (1+k),qEE hl k (by omega)]
     exact⟨_,List.getElem?_eq_getElem (by omega)⟩
    go_wp2
    refine f _ _ (Below.setCell (p:=⟨w.heap.size,1+k,none⟩) (Below.refl _ _) qle _) ?_
    clear f K
    try simp only[Act.put,qqB]
    refine qA6 ?_
    have b4:(c.alloc (.cells (qA1 Z).toArray 5)).heap.size=c.heap.size+1:=by simp
    have Y:qA4 c (c.alloc (.cells (qA1 Z).toArray 5)):=(Below.refl _ c).alloc qle _
    have J:Chg [w.heap.size] (c.alloc (.cells (qA1 Z).toArray 5)) ((c.alloc (.cells (qA1 Z).toArray 5)).setCell ⟨w.heap.size,1+k,none⟩ (.slice (some ⟨c.heap.size,0,none⟩) 32 32)):=Chg.step (by simp) _
    have a1:(c.alloc (.cells (qA1 Z).toArray 5)).ownsRow w.heap.size 5 1 (.slice (some ⟨c.heap.size,0,none⟩) 32 32) 32 (qA1 Z):=qCB 32 (by decide) _ _ N.out (Blk.new _ _ _) a2
    have bn:=O.set (1+k) (.slice (some ⟨c.heap.size,0,none⟩) 32 32)
    rw[qNh F.out k a6]at bn
    go_wp2
    refine⟨⟨k+1,by omega,by go_num,ls.set k (.slice (some ⟨c.heap.size,0,none⟩) 32 32),by simp[F.out],bn,(l.of (q.of Y)).trans (Below.setCell (p:=⟨w.heap.size,1+k,none⟩) (Below.refl _ _) qle _),fun j hj=>?_⟩,by simp[intOf];omega⟩
    by_cases a7:j=k
    · subst a7
      exact⟨_,by rw[List.getElem?_set_self (by rw[F.out];omega)],qAu a1 J O (by decide)⟩
    · obtain⟨u,I,e2⟩:=hz j (by omega)
      exact⟨u,by rw[List.getElem?_set_ne (by omega)];exact I,qAu (qA5 (qA5 e2 q) Y) J O (by decide)⟩
  · have a0:k=32:=by omega
    have HK:=qh a0
    clear a0
    go_wp2
    go_ret
    refine⟨_,rfl,⟨ls,.slice none 0 0,.slice none 0 0,[],[],⟨hB,Blk.kept hp l,⟨by simp[hl],fun i x u hx hu=>?_⟩,qB3.nil _,qB3.nil _,fun g G=>by cases G⟩,⟨fun ha=>?_,hb,fun u hu g G ha=>?_,(fun g G=>by cases G),(fun g G=>by cases G),(by simp),(by simp)⟩,fun k ha=>Nat.lt_of_lt_of_le (hA k ha) l.size⟩,l⟩
    · have hi:=(List.getElem?_eq_some_iff.1 hu).1
      obtain⟨u',I,e2⟩:=hz i (by have:=HK.out;omega)
      rw[hu]at I
      cases I
      have a8:x=Z:=by
       rw[List.getElem?_replicate]at hx
       split at hx
       · exact(Option.some.inj hx).symm
       · cases hx
      rw[a8,N.out]
      exact qAh e2 (Nat.zero_le _)
    · have:=hA _ ha
      omega
    · obtain⟨i,hi⟩:=List.getElem?_of_mem hu
      have b5:=(List.getElem?_eq_some_iff.1 hi).1
      obtain⟨u',I,e2⟩:=hz i (by have:=HK.out;omega)
      rw[hi]at I
      cases I
      have:=qAN e2 G
      have:=hA _ ha
      omega
theorem qGS (A:Nat→Prop)(K b:Nat)(d:Dk)(m:Nat)(w:World)(h:qJH A w K b d)(ok:d.ok m)(off:Int)(a:Option Addr)(L c:Nat)(hL:L≤1000000)(hn:isD off=true)(hl:L=32)(hr:d.no=true):Calls prog 148 #[.pointer (some ⟨K,0,none⟩),.int .i64 off,.slice a L c] w fun e w'=>e= .returned (.bool false)∧w=w':=by
 obtain⟨ls,vw,vt,us,ut,X,O,l⟩:=h
 have f:ls.length=32:=by rw[X.lst.len,ok.len]
 have j:=X.blk.cell 35
 rw[qGa f]at j
 subst hl
 rw[hr]at j
 clear f
 go_enter func148,ntmps148
 go_wp2_with fail
 refine(qKd K off _).mono ?_
 rintro e w1 ⟨rfl,rfl⟩
 rw[hn]
 go_wp2
 go_ret
 exact⟨rfl,rfl⟩
def Dk.wrote (d:Dk)(r:Bool)(p':Pw)(x:Wr):Dk:=if r then⟨p',d.lasts,d.waits++ [x],d.trace++ [x],d.no⟩ else { d with p:=p' }
theorem qM1 (A:Nat→Prop)(K b:Nat)(d:Dk)(m:Nat)(hm:m≤100000)(w:World)(h:qJH A w K b d)(ok:d.ok m)(hno:d.no=false)(off:Int)(u:Value)(bs:List UInt8)(hn:isD off=true)(hl:bs.length=32)(hs:Sl w u bs.length (qA1 bs))(hu:∀a c,u= .slice (some a) bs.length c→0<(qA1 bs).length→A a.block)(r:Bool)(p':Pw)(hsp:d.p.spend=(r,p')) :
 Calls prog 148 #[.pointer (some ⟨K,0,none⟩),.int .i64 off,u] w fun e w'=>e= .returned (.bool r)∧qJH A w' K b (d.wrote r p' (off,bs))∧qA8 A w w':=by
 obtain⟨a,c,he⟩:=hs.len
 subst he
 obtain⟨ls,vw,vt,us,ut,X,O,hA⟩:=h
 have l:ls.length=32:=by rw[X.lst.len,ok.len]
 have c4:=X.blk.cell 35
 rw[qGa l,hno]at c4
 have c0:=X.blk.cell 0
 rw[qHN]at c0
 have d8:bs.length≤65536:=by omega
 have i2:(bs.length:Int)=32:=by omega
 have i1:((bs.length:Int)==32)=true:=by simp;omega
 have i3:((bs.length:Int) != 32)=false:=by simp;omega
 have d7:d.p.ok 9223372036854775806:=qE9 ok.pw (by omega)
 have e0:=qh l
 have HL:=qh hl
 have HI:=qh i2
 clear hl i2 l
 go_enter func148,ntmps148
 go_wp2_with fail
 refine(qKd K off _).mono ?_
 rintro e w1 ⟨rfl,rfl⟩
 rw[hn]
 go_wp2_with fail
 refine(qAK b d.p p' r _ X.pw d7 hsp).mono ?_
 rintro e w1 ⟨rfl,p1,g1⟩
 have g1:=Chg.of_grown g1
 have X1:=X.power g1 p1
 have d9:=(O.same g1).sl hs hu
 have c5:=O.same g1
 cases r
 · go_wp2
   go_ret
   exact⟨rfl,⟨ls,vw,vt,us,ut,X1,O,fun k ha=>Nat.lt_of_lt_of_le (hA k ha) g1.size⟩,c5⟩
 · obtain⟨wa,wc,j⟩:=X1.wts.slice
   subst j
   obtain⟨ta,tc,j⟩:=X1.trc.slice
   subst j
   have e6:=ok.few
   have e3:=ok.done
   have l:=e0.out
   have b5:=d9
   clear c0 c4 i1 i3
   go_wp2_with fail
   have a0:K∉(Value.slice wa d.waits.length wc).ownBlock.toList:=qBX X1.wts.row X1.blk (by decide)
   have b4:w1.cell? ⟨K,33,none⟩=some (Value.slice wa d.waits.length wc):=by
    have:=X1.blk.cell 33
    rwa [qCs l]at this
   have b6:∀g,(Value.slice wa d.waits.length wc).ownBlock=some g→g<w1.heap.size:=fun g G=>qAp X1.wts.row G
   refine qAb ((Value.slice wa d.waits.length wc).ownBlock.toList) [(0,0),(1,0),(2,0),(3,0),(4,0),(5,0),(6,0),(7,1),(8,0),(9,1),(10,1),(11,2),(12,2),(13,2)] (by kernel_rfl) (by kernel_rfl) ?_
   intro e5 q
   repeat
    refine qA0 _ rfl (fun K f=>?_)
    first
     | (refine qqP (by rfl) ?_;apply Exists.intro;refine⟨fun w' a5=>?_,f _ ?_⟩;(have kc:=a5.cell (q.at b4) a0;go_simp;first|done|rfl))
     | refine qqN (by rfl) (f _ ?_)
    clear f K;simp only[Act.put,qqB]
   refine qqH _ rfl (by rfl) (fun K f=>?_)
   go_wp2_with fail
   refine(qAZ _ bs (by omega) _ (b5.kept q)).mono ?_
   rintro e b3 ⟨vp,rfl,a9,J⟩
   obtain⟨ap,cp,j⟩:=(Sl.of_own a9).len
   subst j
   go_wp2
   refine f _ _ (Chg.of_kept J) ?_
   clear f K
   try simp only[Act.put,qqB]
   repeat
    refine qA0 _ rfl (fun K f=>?_)
    first
     | (refine qqP (by rfl) ?_;apply Exists.intro;refine⟨fun w' a5=>?_,f _ ?_⟩;go_simp;first|done|rfl)
     | refine qqN (by rfl) (f _ ?_)
    clear f K;simp only[Act.put,qqB]
   refine qqH _ rfl (by rfl) (fun K f=>?_)
   go_wp2
   refine f _ _ (Chg.of_kept (qal _)) ?_
   clear f K
   try simp only[Act.put,qqB]
   refine qqH _ rfl (by rfl) (fun K f=>?_)
   have c7:=(qA5 (qA5 X1.wts.row q) J).alloc (.cells #[.int .i64 off,.slice ap bs.length cp] 133)
   refine qBE qHa (by rfl) (by rfl) (by rfl) c7 (Sl.lit _ #[.int .i64 off,.slice ap bs.length cp] _ 1 (by decide)) (by rfl) (by intro u hu;simp at hu;rcases hu with rfl|rfl<;>rfl) (by show d.waits.length+1≤maxLen;unfold maxLen;omega) (by show(d.waits.length+1)*32≤140737488355328;omega) (Nat.zero_le _) ?_
   intro vp c1 N Y c3 _
   obtain⟨gp,a7,j⟩:=qAy N (by omega)
   subst j
   have c2:=qA5 a9 ((qal (.cells #[.int .i64 off,.slice ap bs.length cp] 133)):qA4 b3 _)
   have b7:Chg (Value.slice wa d.waits.length wc).ownBlock.toList w1 c1:=(Chg.of_kept (qA4.of q J)).trans ((Chg.of_kept (qal _)).trans Y.chgL)
   refine f _ _ (Y.chgL) ?_
   clear f K
   try simp only[Act.put,qqB]
   refine qAg _ rfl (fun K f=>?_)
   refine qqP (by rfl) ?_
   go_wp2
   refine qAg _ rfl (fun K f=>?_)
   refine qqP (by rfl) ?_
   go_wp2
   refine qAg _ rfl (fun K f=>?_)
   refine qqP (by rfl) ?_
   have a1:=b7.blk X1.blk a0
   have fK:=a1.free 33
   have eK:=a1.cell 33
   rw[qCs l]at eK
   go_wp2
   refine qA6 ?_
   have Z:=q.size
   have d5:=J.size
   have a3:∀g,(Value.slice ap bs.length cp).ownBlock=some g→w1.heap.size≤g:=fun g G=>Nat.le_trans Z (qAN a9 G)
   have a8:=qAh (qAO c2 Y.chgL fun g G hm=>by
    have:=a3 g G
    have:=b6 g (qAt.1 hm)
    omega) Z
   have a2:∀g,(Value.slice (some ⟨gp,0,none⟩) (d.waits.length+1) a7).ownBlock=some g→(Value.slice wa d.waits.length wc).ownBlock=some g∨w1.heap.size≤g:=fun g G=>by
    rcases c3 with e|e
    · left;rw[←e];exact G
    · right
      have h2:some g=some ((b3.alloc (.cells #[.int .i64 off,.slice ap bs.length cp] 133)).heap.size):=G.symm.trans e
      have h3:=Option.some.inj h2
      have:(b3.alloc (.cells #[.int .i64 off,.slice ap bs.length cp] 133)).heap.size=b3.heap.size+1:=by simp
      omega
   have X3:=qDO.pushW (x:=(off,bs)) X1 l b7 N a8 a2
   have b9:Chg [K] c1 (c1.setCell ⟨K,33,none⟩ (.slice (some ⟨gp,0,none⟩) (d.waits.length+1) a7)):=Chg.step (by simp) _
   have F:=(O.sameW b7).trans (O.sameK b9)
   have d6:∀k,A k→k<w1.heap.size:=fun k ha=>by
    have:=hA k ha;have:=g1.size;omega
   have O2:=O.setW d6 a2 a3
   replace b5:=F.sl b5 hu
   have e2:=F.size
   replace F:=c5.trans F
   have e1:bs.length≤65536:=d8
   clear b9 b7 a8 a2 a3 N c3 Y c2 a9 J q Z d5 b4 b6 a0 fK eK a1
   go_wp2_with fail
   generalize (c1.setCell ⟨K,33,none⟩ (.slice (some ⟨gp,0,none⟩) (d.waits.length+1) a7))=w4 at *
   have d4:=F
   have a0:K∉(Value.slice ta d.trace.length tc).ownBlock.toList:=qBX X3.trc.row X3.blk (by decide)
   have b4:w4.cell? ⟨K,34,none⟩=some (Value.slice ta d.trace.length tc):=by
    have:=X3.blk.cell 34
    rwa [qED l]at this
   have b6:∀g,(Value.slice ta d.trace.length tc).ownBlock=some g→g<w4.heap.size:=fun g G=>qAp X3.trc.row G
   refine qAb ((Value.slice ta d.trace.length tc).ownBlock.toList) [(0,0),(1,0),(2,0),(3,0),(4,0),(5,0),(6,0),(7,1),(8,0),(9,1),(10,1),(11,2),(12,2),(13,2)] (by kernel_rfl) (by kernel_rfl) ?_
   intro e4 I
   repeat
    refine qA0 _ rfl (fun K f=>?_)
    first
     | (refine qqP (by rfl) ?_;apply Exists.intro;refine⟨fun w' a5=>?_,f _ ?_⟩;(have kc:=a5.cell (I.at b4) a0;go_simp;first|done|rfl))
     | refine qqN (by rfl) (f _ ?_)
    clear f K;simp only[Act.put,qqB]
   refine qqH _ rfl (by rfl) (fun K f=>?_)
   go_wp2_with fail
   refine(qAZ _ bs (by omega) _ (b5.kept I)).mono ?_
   rintro e b8 ⟨vq,rfl,c8,V⟩
   obtain⟨aq,cq,j⟩:=(Sl.of_own c8).len
   subst j
   go_wp2
   refine f _ _ (Chg.of_kept V) ?_
   clear f K
   try simp only[Act.put,qqB]
   repeat
    refine qA0 _ rfl (fun K f=>?_)
    first
     | (refine qqP (by rfl) ?_;apply Exists.intro;refine⟨fun w' a5=>?_,f _ ?_⟩;go_simp;first|done|rfl)
     | refine qqN (by rfl) (f _ ?_)
    clear f K;simp only[Act.put,qqB]
   refine qqH _ rfl (by rfl) (fun K f=>?_)
   go_wp2
   refine f _ _ (Chg.of_kept (qal _)) ?_
   clear f K
   try simp only[Act.put,qqB]
   refine qqH _ rfl (by rfl) (fun K f=>?_)
   have c7:=(qA5 (qA5 X3.trc.row I) V).alloc (.cells #[.int .i64 off,.slice aq bs.length cq] 133)
   refine qBE qHa (by rfl) (by rfl) (by rfl) c7 (Sl.lit _ #[.int .i64 off,.slice aq bs.length cq] _ 1 (by decide)) (by rfl) (by intro u hu;simp at hu;rcases hu with rfl|rfl<;>rfl) (by show d.trace.length+1≤maxLen;unfold maxLen;omega) (by show(d.trace.length+1)*32≤140737488355328;omega) (Nat.zero_le _) ?_
   intro vq c9 a4 a6 d2 _
   obtain⟨gq,c6,j⟩:=qAy a4 (by omega)
   subst j
   have d3:=qA5 c8 ((qal (.cells #[.int .i64 off,.slice aq bs.length cq] 133)):qA4 b8 _)
   have d0:Chg (Value.slice ta d.trace.length tc).ownBlock.toList w4 c9:=(Chg.of_kept (qA4.of I V)).trans ((Chg.of_kept (qal _)).trans a6.chgL)
   refine f _ _ (a6.chgL) ?_
   clear f K
   try simp only[Act.put,qqB]
   refine qAg _ rfl (fun K f=>?_)
   refine qqP (by rfl) ?_
   go_wp2
   refine qAg _ rfl (fun K f=>?_)
   refine qqP (by rfl) ?_
   go_wp2
   refine qAg _ rfl (fun K f=>?_)
   refine qqP (by rfl) ?_
   have a1:=d0.blk X3.blk a0
   have fK:=a1.free 34
   have eK:=a1.cell 34
   rw[qED l]at eK
   go_wp2
   refine qA6 ?_
   have Z:=I.size
   have d5:=V.size
   have a3:∀g,(Value.slice aq bs.length cq).ownBlock=some g→w4.heap.size≤g:=fun g G=>Nat.le_trans Z (qAN c8 G)
   have a8:=qAh (qAO d3 a6.chgL fun g G hm=>by
    have:=a3 g G
    have:=b6 g (qAt.1 hm)
    omega) Z
   have a2:∀g,(Value.slice (some ⟨gq,0,none⟩) (d.trace.length+1) c6).ownBlock=some g→(Value.slice ta d.trace.length tc).ownBlock=some g∨w4.heap.size≤g:=fun g G=>by
    rcases d2 with e|e
    · left;rw[←e];exact G
    · right
      have h2:some g=some ((b8.alloc (.cells #[.int .i64 off,.slice aq bs.length cq] 133)).heap.size):=G.symm.trans e
      have h3:=Option.some.inj h2
      have:(b8.alloc (.cells #[.int .i64 off,.slice aq bs.length cq] 133)).heap.size=b8.heap.size+1:=by simp
      omega
   have X4:=qDO.pushT (x:=(off,bs)) X3 l d0 a4 (qAh a8 (Nat.zero_le _)) a2
   have b9:Chg [K] c9 (c9.setCell ⟨K,34,none⟩ (.slice (some ⟨gq,0,none⟩) (d.trace.length+1) c6)):=Chg.step (by simp) _
   have F:=(O.sameT d0).trans (O.sameK b9)
   have d1:∀k,A k→k<w4.heap.size:=fun k ha=>by
    have:=d6 k ha;omega
   have O4:=O2.setT d1 a2 a3
   go_wp2
   go_ret
   exact⟨rfl,⟨ls,_,_,_,_,X4,O4,fun k ha=>Nat.lt_of_lt_of_le (d1 k ha) F.size⟩,d4.trans F⟩
end Go.Proofs.YtdlgihbpiakebaaGreat
namespace Go.Proofs.YtdlgihbpiakebaaGreat
open Go Go.RowKit Go.ChangeShapes Go.WideShapes Go.ChangeAt Go.Deep
section
variable {H:Type} {enc:TypeId×Value→H} {P:Program} {w:World} {base:Nat} {spare:Nat→Bool} {held:Bool} {r:Reach} {b0:Nat}
def isT:Option Value→Bool
 | some (.bool b)=>b
 | _=>false
theorem qPg {w:World}{a:Addr}{n cap:Nat}(hn:n≤cap)(hm:cap≤maxLen)(h:∀i,i<n→∃m,w.cell? (a.add i)=some (.bool m)):∃ks:List Bool,Sl w (.slice (some a) n cap) ks.length (qBe ks)∧ks.length=n:=by
 refine⟨(List.range n).map fun i=>isT (w.cell? (a.add i)),.inr ⟨a,cap,by simp,by simpa using hn,hm,fun j u f=>?_⟩,by simp⟩
 have c:=(List.getElem?_eq_some_iff.1 f).1
 simp only[qD7,List.length_map,List.length_range]at c
 obtain⟨m,l⟩:=h j c
 have:u= .bool (isT (w.cell? (a.add j))):=by
  simp[qBe,c]at f
  rw[←f]
 rw[this,l];rfl
end
end Go.Proofs.YtdlgihbpiakebaaGreat
namespace Go.Proofs.YtdlgihbpiakebaaGreat
open Go Go.RowKit Tryz
def qF3 (b:List (List UInt8))(l:List Wr)(is:Nat→Bool):Nat→List (List UInt8)
 | 0=>b
 | k+1=>if is k then(qF3 b l is k).set (l[k]?.getD (0,[])).1.toNat (l[k]?.getD (0,[])).2 else qF3 b l is k
theorem qD8 (b:List (List UInt8))(l:List Wr)(is:Nat→Bool):∀k,(qF3 b l is k).length=b.length
 | 0=>rfl
 | k+1=>by
  unfold qF3
  split
  · rw[List.length_set,qD8 b l is k]
  · exact qD8 b l is k
theorem qHO (b:List (List UInt8))(l:List Wr)(is:Nat→Bool)(hb:∀x∈b,x.length=32)(hl:∀x∈l,inD x):∀k,k≤l.length→∀x∈qF3 b l is k,x.length=32
 | 0,_=>hb
 | k+1,hk=>by
  unfold qF3
  split
  · intro x c
    rcases List.mem_or_eq_of_mem_set c with h|h
    · exact qHO b l is hb hl k (by omega) x h
    · rw[h,List.getElem?_eq_getElem (by omega)]
      exact(hl _ (List.getElem_mem (by omega))).2.2
  · exact qHO b l is hb hl k (by omega)
def Dk.settled (d:Dk)(is:Nat→Bool):Dk:={ d with lasts:=qF3 d.lasts d.waits is d.waits.length,waits:=[] }
theorem Dk.settled_ok {d:Dk}{m:Nat}(h:d.ok m)(is:Nat→Bool):(d.settled is).ok m:=
 ⟨(qD8 _ _ _ _).trans h.len,qHO _ _ _ h.all h.fit _ qle,by simp[Dk.settled],h.fitp,by simp[Dk.settled],h.done,h.pw⟩
def Dk.barred (d:Dk)(r:Bool)(p':Pw):Dk:=if r then { ({ d with p:=p' }:Dk).settled (fun _=>true) with trace:=d.trace++ [(-1,[])] } else { d with p:=p' }
theorem qIO (A:Nat→Prop)(J b:Nat)(j:Dk)(m:Nat)(hm:m≤99999)(w:World)(h:qJH A w J b j)(ok0:j.ok m)(r:Bool)(p':Pw)(hsp:j.p.spend=(r,p')) :
 Calls prog 112 #[.pointer (some ⟨J,0,none⟩)] w fun e w'=>e= .returned (.bool r)∧qJH A w' J b (j.barred r p')∧qA8 A w w':=by
 obtain⟨ls,vw,vt,us,ut,X,O,b5⟩:=h
 have c0:=X.blk.cell 0
 rw[qHN]at c0
 have b9:j.p.ok 9223372036854775806:=qE9 ok0.pw (by omega)
 go_enter func112,ntmps112
 go_wp2_with fail
 refine(qAK b j.p p' r _ X.pw b9 hsp).mono ?_
 rintro e w1 ⟨rfl,p1,g1⟩
 have g1:=Chg.of_grown g1
 have X1:=X.power g1 p1
 have a0:=O.same g1
 have hA:∀k,A k→k<w1.heap.size:=fun k ha=>Nat.lt_of_lt_of_le (b5 k ha) g1.size
 cases r
 · go_wp2
   go_ret
   exact⟨rfl,⟨ls,vw,vt,us,ut,X1,O,hA⟩,a0⟩
 have d7:p'.ok (m+1:Int):=by have:=qHH ok0.pw;rw[hsp]at this;exact this
 obtain⟨d,hd⟩:∃d:Dk,d={ j with p:=p' }:=⟨_,rfl⟩
 have ok:d.ok (m+1):=by rw[hd];exact⟨ok0.len,ok0.all,ok0.fit,ok0.fitp,by have:=ok0.few;show j.waits.length≤_;omega,by have:=ok0.done;show j.trace.length≤_;omega,by simpa using d7⟩
 have a1:j.barred true p'={ d.settled (fun _=>true) with trace:=d.trace++ [(-1,[])] }:=by rw[hd];rfl
 have b4:=qh a1
 rw[←hd]at X1
 clear a1 hd c0 X p1 d7 ok0 b9
 obtain⟨wa,wc,f⟩:=X1.wts.slice
 subst f
 have a9:ls.length=32:=by rw[X1.lst.len,ok.len]
 have a6:=X1.blk.cell 33
 rw[qCs a9]at a6
 have HF:=qh ok.fit
 have c1:=ok.few
 have d8:=ok.done
 obtain⟨N,hN⟩:∃N,N=d.waits.length:=⟨_,rfl⟩
 rw[←hN]at c1 a6
 have HN:=qh hN
 clear hN
 go_wp2_with fail
 go_loopw [20,4] (fun i _ wr=>∃k:Nat,k≤N∧i= .int .i64 k∧∃Y,Y.length=32∧qDO wr J b Y (.slice wa d.waits.length wc) vt us ut { d with lasts:=qF3 d.lasts d.waits (fun _=>true) k }∧qFU A J b Y (.slice wa d.waits.length wc) vt us ut∧qA8 A w1 wr) (fun i _ _=>N - (intOf i).toNat)
 case atStart=>exact⟨0,by omega,by go_num,ls,a9,X1,O,qA8.refl _⟩
 case round =>
  obtain⟨k,hk,rfl,Y,c9,F,Or,I⟩:=hrel
  clear X1 a6
  have c:=qh c9
  clear c9
  by_cases e0:k<N
  · have Z:k<d.waits.length:=by rw[←HN.out];exact e0
    have n3:(k:Int)<(N:Int):=by omega
    have n4:(0:Int)≤(k:Int):=by omega
    obtain⟨g,e9,u,f,c6,j,d1,c5⟩:=F.wts.get k Z
    cases f
    have a7:wr.ownsRow 0 5 1 u d.waits[k].2.length (qA1 d.waits[k].2):=F.wts.each k _ u (List.getElem?_eq_getElem Z) c6
    have e8:∀g,u.ownBlock=some g→¬A g:=Or.us u (List.mem_of_getElem? c6)
    have e3:inD d.waits[k]:=HF.out _ (List.getElem_mem Z)
    have c7:d.waits[k]?.getD (0,[])=d.waits[k]:=by rw[List.getElem?_eq_getElem Z];rfl
    replace j:wr.cell? ⟨g,k*2,none⟩=some (.int .i64 d.waits[k].1):=j
    generalize d.waits[k]=x at *
    obtain⟨f2,V,b6⟩:=e3
    obtain⟨o,ho⟩:∃o:Nat,o=x.1.toNat:=⟨_,rfl⟩
    have a8:x.1=(o:Int):=by omega
    rw[←ho]at V
    rw[a8]at j
    obtain⟨au,cu,f⟩:=c5.len
    subst f
    have n5:(o:Int)<32:=by omega
    have n7:(0:Int)≤(o:Int):=by omega
    have HO:=qh ho
    have d9:=qh c7
    have f1:=qh a8
    have f5:=qh b6
    have l:qA4 wr (wr.alloc (.cells #[.int .i64 (o:Int),.slice au x.2.length cu] 133)):=qal _
    have e5:=Blk.new wr #[.int .i64 (o:Int),.slice au x.2.length cu] 133
    have b3:wr.heap.size∉ [J]:=by have:=F.low.1;simp;omega
    replace F:=F.kept l
    replace a7:=qA5 a7 l
    replace I:=I.trans (qA8.of_kept l)
    clear ho c7 a8 b6 c5
    go_wp2_with fail
    generalize (wr.alloc (.cells #[.int .i64 (o:Int),.slice au x.2.length cu] 133))=wx at *
    refine qAb [J] [(0,0),(1,0),(2,0),(3,0),(4,0),(5,0),(6,0),(7,0),(8,1)] (by kernel_rfl) (by kernel_rfl) ?_
    intro w2 q
    repeat
     refine qA0 _ rfl (fun K hK=>?_)
     first
      | (refine qqP (by rfl) ?_;apply Exists.intro;refine⟨fun w' c4=>?_,hK _ ?_⟩;(have b8:=(e5.kept q);have f4:=(c4.blk b8 b3).cell 0;have f3:=(c4.blk b8 b3).cell 1;go_simp;first|done|rfl))
      | refine qqN (by rfl) (hK _ ?_)
     clear hK K;simp only[Act.put,qqB]
    refine qqH _ rfl (by rfl) (fun K hK=>?_)
    have bK:=F.blk.kept q
    have fK:=bK.free (1+o)
    obtain⟨cv,eK⟩:∃cv,w2.cell? ⟨J,1+o,none⟩=some cv:=by
     rw[bK.cell (1+o),qEE c.out o V]
     exact⟨_,List.getElem?_eq_getElem (by rw[c.out];exact V)⟩
    go_wp2
    refine hK _ _ (Chg.step (by simp) _) ?_
    clear hK K
    try simp only[Act.put,qqB]
    refine qA6 ?_
    have Xn:=(F.kept q).lay c.out o V (qA5 a7 q)
    have On:=Or.lay o e8
    have e2:=(I.trans (qA8.of_kept q)).trans (On.sameK (Chg.step qsm (.slice au x.2.length cu) (o:=1+o)))
    go_wp2
    refine⟨⟨k+1,by omega,by go_num,_,by rw[List.length_set];exact c.out,?_,On,e2⟩,by simp[intOf];omega⟩
    have d2:qF3 d.lasts d.waits (fun _=>true) (k+1)=(qF3 d.lasts d.waits (fun _=>true) k).set o x.2:=by
     rw[qF3,d9.out,HO.out];rfl
    rw[d2]
    exact Xn
  · have d4:k=N:=by omega
    have HK:=qh d4
    clear d4
    rw[HK.out,HN.out]at F
    have fK:=F.blk.free 33
    have eK:=F.blk.cell 33
    rw[qCs c.out]at eK
    have X2:=F.clear c.out
    have O2:=Or.clear
    have d3:=I.trans (O2.sameK (Chg.step qsm (.slice none 0 0) (o:=33)))
    have f0:d.trace.length≤m+1:=d8
    have c8:∀k,A k→k<(wr.setCell ⟨J,33,none⟩ (.slice none 0 0)).heap.size:=fun k ha=>Nat.lt_of_lt_of_le (hA k ha) d3.size
    obtain⟨ta,tc,f⟩:=X2.trc.slice
    subst f
    have l:qA4 (wr.setCell ⟨J,33,none⟩ (.slice none 0 0)) ((wr.setCell ⟨J,33,none⟩ (.slice none 0 0)).alloc (.cells #[.int .i64 (-1),.slice none 0 0] 133)):=qal _
    have c3:=X2.blk.cell 34
    rw[qED c.out]at c3
    have e4:=X2.trc.row.alloc (.cells #[.int .i64 (-1),.slice none 0 0] 133)
    have e1:J∉(Value.slice ta d.trace.length tc).ownBlock.toList:=qBX X2.trc.row X2.blk (by decide)
    have a2:=Sl.lit (wr.setCell ⟨J,33,none⟩ (.slice none 0 0)) #[.int .i64 (-1),.slice none 0 0] 133 1 (by decide)
    rw[show(wr.setCell ⟨J,33,none⟩ (.slice none 0 0)).heap.size=wr.heap.size by simp[World.setCell]]at a2
    clear I Or
    go_wp2_with (at_builtin;refine qBb qHa rfl (by rfl) (by rfl) (by rfl) e4 a2 (by rfl) (by intro u hu;simp at hu;rcases hu with rfl|rfl<;>rfl) (by show d.trace.length+1≤maxLen;unfold maxLen;omega) (by show(d.trace.length+1)*32≤140737488355328;omega) (Nat.zero_le _) ?_;intro v3 w3 G d6 b7 _;obtain⟨g3,a4,f⟩:=qAy G (by omega);subst f;have a5:=(Chg.of_kept l (bs:=(Value.slice ta d.trace.length tc).ownBlock.toList)).trans d6.chgL;have c2:=a5.blk X2.blk e1;have fK:=c2.free 34;have eK:=c2.cell 34;rw[qED c.out]at eK)
    go_ret
    have hz:((wr.setCell ⟨J,33,none⟩ (.slice none 0 0)).alloc (.cells #[.int .i64 (-1),.slice none 0 0] 133)).heap.size=(wr.setCell ⟨J,33,none⟩ (.slice none 0 0)).heap.size+1:=by simp
    have d5:∀g,(Value.slice (some ⟨g3,0,none⟩) (d.trace.length+1) a4).ownBlock=some g→(Value.slice ta d.trace.length tc).ownBlock=some g∨(wr.setCell ⟨J,33,none⟩ (.slice none 0 0)).heap.size≤g:=fun g hg=>by
     rcases b7 with e|e
     · left;rw[←e];exact hg
     · right
       have h3:=Option.some.inj (hg.symm.trans e)
       omega
    have X3:=qDO.pushT (x:=(-1,[])) X2 c.out a5 G (World.ownsRow_nil _ _ _ _) d5
    have e6:Chg [J] w3 (w3.setCell ⟨J,34,none⟩ (.slice (some ⟨g3,0,none⟩) (d.trace.length+1) a4)):=Chg.step (by simp) _
    have e7:=(O2.sameT a5).trans (O2.sameK e6)
    have O3:=qFU.setT (u6:=.slice none 0 0) O2 c8 d5 (by intro g hg;cases hg)
    have a3:=(a0.trans d3).trans e7
    rw[b4.out]
    exact⟨rfl,⟨_,_,_,_,_,X3,O3,fun k ha=>Nat.lt_of_lt_of_le (b5 k ha) a3.size⟩,a3⟩
theorem qM2 (A:Nat→Prop)(J b:Nat)(d:Dk)(m:Nat)(hm:m≤100000)(w1:World)(h:qJH A w1 J b d)(ok:d.ok m)(v:Value)(ks:List Bool)(kl:ks.length≤100000)(hks:Sl w1 v ks.length (qBe ks))(hkA:∀a c,v= .slice (some a) ks.length c→0<(qBe ks).length→A a.block) :
 Calls prog 83 #[.pointer (some ⟨J,0,none⟩),v] w1 fun e w'=>e= .returned (.tuple #[])∧qJH A w' J b (d.settled (isK ks))∧qA8 A w1 w':=by
 obtain⟨ka,kc,he⟩:=hks.len
 subst he
 obtain⟨ls,vw,vt,us,ut,X1,O,hA⟩:=h
 obtain⟨wa,wc,G⟩:=X1.wts.slice
 subst G
 have a5:ls.length=32:=by rw[X1.lst.len,ok.len]
 have a2:=X1.blk.cell 33
 rw[qCs a5]at a2
 have HF:=qh ok.fit
 have a9:=ok.few
 obtain⟨N,hN⟩:∃N,N=d.waits.length:=⟨_,rfl⟩
 rw[←hN]at a9 a2
 have HN:=qh hN
 clear hN
 go_enter func83,ntmps83
 go_wp2_with fail
 go_loopw [13,4,5] (fun i _ _ wr=>∃k:Nat,k≤N∧i= .int .i64 k∧∃Y,Y.length=32∧qDO wr J b Y (.slice wa d.waits.length wc) vt us ut { d with lasts:=qF3 d.lasts d.waits (isK ks) k }∧qFU A J b Y (.slice wa d.waits.length wc) vt us ut∧qA8 A w1 wr) (fun i _ _ _=>N - (intOf i).toNat)
 case atStart=>exact⟨0,by omega,by go_num,ls,a5,X1,O,qA8.refl _⟩
 case round =>
  obtain⟨k,hk,rfl,Y,j,q,Or,l⟩:=hrel
  clear X1 a2
  have f:=qh j
  clear j
  by_cases c2:k<N
  · have Z:k<d.waits.length:=by rw[←HN.out];exact c2
    have n3:(k:Int)<(N:Int):=by omega
    have n4:(0:Int)≤(k:Int):=by omega
    obtain⟨g,c7,u,G,b5,d0,d1,b4⟩:=q.wts.get k Z
    cases G
    have a3:wr.ownsRow 0 5 1 u d.waits[k].2.length (qA1 d.waits[k].2):=q.wts.each k _ u (List.getElem?_eq_getElem Z) b5
    have c6:∀g,u.ownBlock=some g→¬A g:=Or.us u (List.mem_of_getElem? b5)
    have c4:inD d.waits[k]:=HF.out _ (List.getElem_mem Z)
    have b6:d.waits[k]?.getD (0,[])=d.waits[k]:=by rw[List.getElem?_eq_getElem Z];rfl
    replace d0:wr.cell? ⟨g,k*2,none⟩=some (.int .i64 d.waits[k].1):=d0
    generalize d.waits[k]=x at *
    obtain⟨d3,V,a7⟩:=c4
    obtain⟨o,ho⟩:∃o:Nat,o=x.1.toNat:=⟨_,rfl⟩
    have a4:x.1=(o:Int):=by omega
    rw[←ho]at V
    rw[a4]at d0
    obtain⟨au,cu,G⟩:=b4.len
    subst G
    have n5:(o:Int)<32:=by omega
    have n7:(0:Int)≤(o:Int):=by omega
    have HO:=qh ho
    have c1:=qh b6
    have d2:=qh a4
    have d6:=qh a7
    have a0:qA4 wr (wr.alloc (.cells #[.int .i64 (o:Int),.slice au x.2.length cu] 133)):=qal _
    have c5:=Blk.new wr #[.int .i64 (o:Int),.slice au x.2.length cu] 133
    have a6:wr.heap.size∉ [J]:=by have:=q.low.1;simp;omega
    replace q:=q.kept a0
    replace a3:=qA5 a3 a0
    replace l:=l.trans (qA8.of_kept a0)
    clear ho b6 a4 a7 b4
    by_cases b7:k<ks.length
    · have r1:(k:Int)<(ks.length:Int):=by omega
      obtain⟨bk,c9,c8,e,_,_,_,hx⟩:=(l.sl hks hkA).at (by rw[qD7];omega)
      cases e
      have r0:=hx k (.bool ks[k]) (by simp[qBe,b7])
      have I:isK ks k=ks[k]:=by simp[isK,b7]
      cases hq:ks[k]
      · rw[hq]at r0 I
        have j:qF3 d.lasts d.waits (isK ks) (k+1)=qF3 d.lasts d.waits (isK ks) k:=by rw[qF3,I];rfl
        have a1:=qh j
        clear I hq j hx
        go_wp2
        refine⟨⟨k+1,by omega,by go_num,_,f.out,?_,Or,l⟩,by simp[intOf];omega⟩
        rw[a1.out]
        exact q
      · rw[hq]at r0 I
        have HI:=qh I
        clear I hq hx
        go_wp2_with fail
        generalize (wr.alloc (.cells #[.int .i64 (o:Int),.slice au x.2.length cu] 133))=wx at *
        refine qAb [J] [(0,0),(1,0),(2,0),(3,0),(4,0),(5,0),(6,0),(7,0),(8,1)] (by kernel_rfl) (by kernel_rfl) ?_
        intro w2 F
        repeat
         refine qA0 _ rfl (fun K hK=>?_)
         first
          | (refine qqP (by rfl) ?_;apply Exists.intro;refine⟨fun w' b3=>?_,hK _ ?_⟩;(have a8:=(c5.kept F);have d5:=(b3.blk a8 a6).cell 0;have d4:=(b3.blk a8 a6).cell 1;go_simp;first|done|rfl))
          | refine qqN (by rfl) (hK _ ?_)
         clear hK K;simp only[Act.put,qqB]
        refine qqH _ rfl (by rfl) (fun K hK=>?_)
        have bK:=q.blk.kept F
        have fK:=bK.free (1+o)
        obtain⟨cv,eK⟩:∃cv,w2.cell? ⟨J,1+o,none⟩=some cv:=by
         rw[bK.cell (1+o),qEE f.out o V]
         exact⟨_,List.getElem?_eq_getElem (by rw[f.out];exact V)⟩
        go_wp2
        refine hK _ _ (Chg.step (by simp) _) ?_
        clear hK K
        try simp only[Act.put,qqB]
        refine qA6 ?_
        have Xn:=(q.kept F).lay f.out o V (qA5 a3 F)
        have On:=Or.lay o c6
        have c3:=(l.trans (qA8.of_kept F)).trans (On.sameK (Chg.step qsm (.slice au x.2.length cu) (o:=1+o)))
        go_wp2
        refine⟨⟨k+1,by omega,by go_num,_,by rw[List.length_set];exact f.out,?_,On,c3⟩,by simp[intOf];omega⟩
        have b8:qF3 d.lasts d.waits (isK ks) (k+1)=(qF3 d.lasts d.waits (isK ks) k).set o x.2:=by
         rw[qF3,c1.out,HO.out];rw[HI.out];rfl
        rw[b8]
        exact Xn
    · have r1:¬(k:Int)<(ks.length:Int):=by omega
      have I:isK ks k=false:=by simp[isK,List.getElem?_eq_none (show ks.length≤k by omega)]
      have j:qF3 d.lasts d.waits (isK ks) (k+1)=qF3 d.lasts d.waits (isK ks) k:=by rw[qF3,I];rfl
      have a1:=qh j
      clear I j
      go_wp2
      refine⟨⟨k+1,by omega,by go_num,_,f.out,?_,Or,l⟩,by simp[intOf];omega⟩
      rw[a1.out]
      exact q
  · have c0:k=N:=by omega
    have HK:=qh c0
    clear c0
    rw[HK.out,HN.out]at q
    have fK:=q.blk.free 33
    have eK:=q.blk.cell 33
    rw[qCs f.out]at eK
    have X2:=q.clear f.out
    have O2:=Or.clear
    have b9:=l.trans (O2.sameK (Chg.step qsm (.slice none 0 0) (o:=33)))
    clear l Or
    go_wp2
    go_end0
    exact⟨rfl,⟨_,_,_,_,_,X2,O2,fun k ha=>Nat.lt_of_lt_of_le (hA k ha) b9.size⟩,b9⟩
def qC8 (b:List UInt8)(l:List Wr)(o:Int):Nat→List UInt8
 | 0=>b
 | k+1=>if(l[k]?.getD (0,[])).1=o then(l[k]?.getD (0,[])).2 else qC8 b l o k
theorem qDz (b:List UInt8)(l:List Wr)(o:Int)(hb:b.length=32)(hl:∀x∈l,inD x):∀k,k≤l.length→(qC8 b l o k).length=32
 | 0,_=>hb
 | k+1,hk=>by
  unfold qC8
  split
  · rw[List.getElem?_eq_getElem (by omega)]
    exact(hl _ (List.getElem_mem (by omega))).2.2
  · exact qDz b l o hb hl k (by omega)
def Dk.read (d:Dk)(o:Nat):List UInt8:=qC8 (d.lasts[o]?.getD []) d.waits o d.waits.length
theorem Dk.read_length {d:Dk}{m:Nat}(h:d.ok m){o:Nat}(ho:o<32):(d.read o).length=32:=
 qDz _ _ _ (by rw[List.getElem?_eq_getElem (by rw[h.len];exact ho)];exact h.all _ (List.getElem_mem (by rw[h.len];exact ho))) h.fit _ qle
theorem qNn (A:Nat→Prop)(K b:Nat)(d:Dk)(m:Nat)(hm:m≤100000)(w:World)(h:qJH A w K b d)(ok:d.ok m)(o:Nat)(ho:o<32)(hg:d.p.gone=false):Calls prog 119 #[.pointer (some ⟨K,0,none⟩),.int .i64 o] w fun e w'=>∃v,e= .returned (.tuple #[v,.bool true])∧w'.ownsRow w.heap.size 5 1 v 32 (qA1 (d.read o))∧qA4 w w':=by
 obtain⟨ls,vw,vt,us,ut,X,O,hA⟩:=h
 obtain⟨wa,wc,l⟩:=X.wts.slice
 subst l
 have c0:=X.blk.cell 0
 rw[qHN]at c0
 have J:ls.length=32:=by rw[X.lst.len,ok.len]
 have b7:=X.blk.cell 33
 rw[qCs J]at b7
 have V:o<d.lasts.length:=by rw[ok.len];exact ho
 obtain⟨u0,b4,_,j⟩:=X.lst.get o V
 have c1:=X.blk.cell (1+o)
 rw[qEE J o ho,b4]at c1
 have b9:d.lasts[o]?.getD []=d.lasts[o]:=by rw[List.getElem?_eq_getElem V];rfl
 have a5:=ok.all _ (List.getElem_mem V)
 rw[a5]at j
 have c8:=qh (qDz d.lasts[o] d.waits o a5 ok.fit)
 have c4:d.read o=qC8 d.lasts[o] d.waits o d.waits.length:=by rw[Dk.read,b9]
 rw[c4]
 generalize d.lasts[o]=y0 at *
 have b5:=ok.few
 have HF:=qh ok.fit
 obtain⟨N,hN⟩:∃N,N=d.waits.length:=⟨_,rfl⟩
 rw[←hN]at b5 b7
 have n1:(0:Int)≤(o:Int):=by omega
 have n2:(o:Int)<32:=by omega
 have HN:=qh hN
 have d8:=qh J
 obtain⟨a0,k0,l⟩:=(Sl.of_own j).len
 subst l
 clear hN J b4 V b9 a5 c4
 go_enter func119,ntmps119
 go_wp2_with fail
 refine(qKd K o _).mono ?_
 rintro e w1 ⟨rfl,rfl⟩
 rw[show isD (o:Int)=true by simp[isD];omega]
 go_wp2_with fail
 refine(qD2 b _ _ X.pw).mono ?_
 rintro e w1 ⟨rfl,rfl⟩
 rw[hg]
 go_wp2_with fail
 go_loopw [32,8,6] (fun i _ v wr=>∃k:Nat,k≤N∧i= .int .i64 k∧(∃a c,v= .slice a 32 c)∧wr.ownsRow 0 5 1 v 32 (qA1 (qC8 y0 d.waits o k))∧qA4 w wr) (fun i _ _ _=>N - (intOf i).toNat)
 case atStart=>exact⟨0,by omega,by go_num,⟨_,_,rfl⟩,j,Below.refl _ _⟩
 case round =>
  obtain⟨k,hk,rfl,⟨va,vc,rfl⟩,hv,a3⟩:=hrel
  by_cases c9:k<N
  · have a1:k<d.waits.length:=by rw[←HN.out];exact c9
    have n3:(k:Int)<(N:Int):=by omega
    have n4:(0:Int)≤(k:Int):=by omega
    have q:=X.wts.kept a3
    obtain⟨g,d5,u,l,d4,d0,d1,a2⟩:=q.get k a1
    cases l
    have c2:wr.ownsRow 0 5 1 u d.waits[k].2.length (qA1 d.waits[k].2):=q.each k _ u (List.getElem?_eq_getElem a1) d4
    have d3:inD d.waits[k]:=HF.out _ (List.getElem_mem a1)
    have F:d.waits[k]?.getD (0,[])=d.waits[k]:=by rw[List.getElem?_eq_getElem a1];rfl
    replace d0:wr.cell? ⟨g,k*2,none⟩=some (.int .i64 d.waits[k].1):=d0
    generalize d.waits[k]=x at *
    obtain⟨d6,d7,a4⟩:=d3
    rw[a4]at c2 a2
    obtain⟨au,cu,l⟩:=a2.len
    subst l
    have Z:qA4 wr (wr.alloc (.cells #[.int .i64 x.1,.slice au 32 cu] 133)):=qal _
    have a9:=qA5 hv Z
    have b3:=qA5 c2 Z
    have a7:=qA4.of a3 Z
    by_cases G:x.1=(o:Int)
    · have I:qC8 y0 d.waits o (k+1)=x.2:=by rw[qC8,F,if_pos G]
      have a8:=qh I
      have c7:=qh F
      rw[G]at d0 Z a9 b3 a7
      clear I F G a4 a2 q
      go_wp2
      exact⟨⟨k+1,by omega,by go_num,⟨_,_,rfl⟩,by rw[a8.out];exact b3,a7⟩,by simp[intOf];omega⟩
    · have I:qC8 y0 d.waits o (k+1)=qC8 y0 d.waits o k:=by rw[qC8,F,if_neg G]
      have i1:(x.1==(o:Int))=false:=by simpa using G
      have a8:=qh I
      have c7:=qh F
      clear I F G a4 a2 q
      go_wp2
      exact⟨⟨k+1,by omega,by go_num,⟨_,_,rfl⟩,by rw[a8.out];exact a9,a7⟩,by simp[intOf];omega⟩
  · have c5:k=N:=by omega
    have f:=c8.out k (by rw[←HN.out];omega)
    have HK:=qh c5
    clear c5
    rw[HK.out,HN.out]at hv f
    have b6:=Sl.of_own hv
    obtain⟨Y,a6⟩:∃Y,Y=qC8 y0 d.waits o d.waits.length:=⟨_,rfl⟩
    rw[←a6]at b6 f hv
    have c6:=qh a6
    clear a6
    have c3:Sl wr (.slice va 32 vc) Y.length (qA1 Y):=by rw[f];exact b6
    have HY:=qh f
    clear f hv
    go_wp2_with fail
    refine(qAZ _ Y (by rw[HY.out];omega) _ c3).mono ?_
    rintro e w3 ⟨v3,rfl,b8,d2⟩
    rw[HY.out]at b8
    go_wp2
    go_ret2
    exact⟨v3,rfl,by rw[←c6.out];exact qAh b8 a3.size,qA4.of a3 d2⟩
theorem qKe (A:Nat→Prop)(K b:Nat)(d:Dk)(m:Nat)(w:World)(h:qJH A w K b d)(ok:d.ok m)(q:Bool):Calls prog 31 #[.pointer (some ⟨K,0,none⟩),.bool q] w fun e w'=>e= .returned (.tuple #[])∧qJH A w' K b { d with no:=q }∧qA8 A w w':=by
 obtain⟨ls,vw,vt,us,ut,X,O,I⟩:=h
 have c:ls.length=32:=by rw[X.lst.len,ok.len]
 have f:=X.blk.cell 35
 rw[qGa c]at f
 have F:=X.blk.free 35
 have l:=X.refuse c q
 have j:=O.sameK (Chg.step qsm (.bool q) (o:=35):Chg [K] w _)
 have J:=qh c
 clear c
 go_enter func31,ntmps31
 go_wp2
 go_end0
 exact⟨rfl,⟨ls,vw,vt,us,ut,l,O,fun k G=>Nat.lt_of_lt_of_le (I k G) j.size⟩,j⟩
structure Cl where
 kind:Int
 lba:Int
 data:List UInt8
def Cl.is (c:Cl):Bool:=
 if c.kind=1 then isD c.lba else if c.kind=4 then isD c.lba else if c.kind=2 then isD c.lba&&decide (c.data.length=32) else decide (c.kind=3)||decide (c.kind=5)
theorem qM3 (i:Int)(w:World):Calls prog 116 #[.int .i64 i] w fun e w'=>e= .returned (.bool (isD i))∧w=w':=by
 by_cases h:0≤i
 · by_cases f:i<32
   · rw[show isD i=true by simp[isD];omega]
     go_enter func116,ntmps116
     go_wp2
     go_ret
     exact⟨rfl,rfl⟩
   · rw[show isD i=false by simp[isD];omega]
     have c:decide (i<32)=false:=decide_eq_false f
     go_enter func116,ntmps116
     go_wp2
     go_ret
     exact⟨rfl,rfl⟩
 · rw[show isD i=false by simp[isD];omega]
   go_enter func116,ntmps116
   go_wp2
   go_ret
   exact⟨rfl,rfl⟩
theorem qFg (c:Cl)(a:Option Addr)(cap:Nat)(hl:c.data.length≤1000000)(w:World):Calls prog 76 #[.agg #[.int .i64 c.kind,.int .i64 c.lba,.slice a c.data.length cap]] w fun e w'=>e= .returned (.bool c.is)∧qA4 w w':=by
 obtain⟨f,lb,j⟩:=c
 simp only at hl ⊢
 have l:qA4 w (w.alloc (.cells #[.int .i64 f,.int .i64 lb,.slice a j.length cap] 34)):=qal _
 have F:=Blk.new w #[.int .i64 f,.int .i64 lb,.slice a j.length cap] 34
 have Z:=F.cell 0
 have q1:=F.cell 1
 have q2:=F.cell 2
 clear F
 have q:=qM3 lb (w.alloc (.cells #[.int .i64 f,.int .i64 lb,.slice a j.length cap] 34))
 unfold Cl.is
 simp only
 by_cases G:f=1
 · rw[if_pos G]
   subst G
   go_enter func76,ntmps76
   go_wp2_with fail
   refine q.mono ?_
   rintro e w1 ⟨rfl,rfl⟩
   go_wp2
   go_ret
   exact⟨rfl,l⟩
 rw[if_neg G]
 have e1:(f==1)=false:=by simpa using G
 by_cases I:f=4
 · rw[if_pos I]
   subst I
   go_enter func76,ntmps76
   go_wp2_with fail
   refine q.mono ?_
   rintro e w1 ⟨rfl,rfl⟩
   go_wp2
   go_ret
   exact⟨rfl,l⟩
 rw[if_neg I]
 have e4:(f==4)=false:=by simpa using I
 by_cases J:f=2
 · rw[if_pos J]
   subst J
   cases hd:isD lb
   · rw[hd]at q
     go_enter func76,ntmps76
     go_wp2_with fail
     refine q.mono ?_
     rintro e w1 ⟨rfl,rfl⟩
     go_wp2
     go_ret
     exact⟨rfl,l⟩
   · rw[hd]at q
     by_cases h:j.length=32
     · rw[decide_eq_true h]
       have V:((j.length:Int)==32)=true:=by rw[h];rfl
       have Y:(j.length:Int)=32:=by omega
       clear h
       go_enter func76,ntmps76
       go_wp2_with fail
       refine q.mono ?_
       rintro e w1 ⟨rfl,rfl⟩
       go_wp2
       go_ret
       exact⟨rfl,l⟩
     · rw[decide_eq_false h]
       have Y:¬(j.length:Int)=32:=by omega
       have V:((j.length:Int)==32)=false:=by simpa using Y
       go_enter func76,ntmps76
       go_wp2_with fail
       refine q.mono ?_
       rintro e w1 ⟨rfl,rfl⟩
       go_wp2
       go_ret
       exact⟨rfl,l⟩
 rw[if_neg J]
 have e2:(f==2)=false:=by simpa using J
 by_cases O:f=3
 · rw[decide_eq_true O]
   subst O
   go_enter func76,ntmps76
   go_wp2
   go_ret
   exact⟨rfl,l⟩
 have e3:(f==3)=false:=by simpa using O
 rw[decide_eq_false O]
 by_cases N:f=5
 · rw[decide_eq_true N]
   subst N
   go_enter func76,ntmps76
   go_wp2
   go_ret
   exact⟨rfl,l⟩
 have V:(f==5)=false:=by simpa using N
 rw[decide_eq_false N]
 go_enter func76,ntmps76
 go_wp2
 go_ret
 exact⟨rfl,l⟩
structure Ac where
 kind:Int
 call:Cl
 n:Int
 off:Int
 data:List UInt8
 keep:List Bool
def qQT (a:Ac)(v1 v2 v3:Value):Array Value:=#[.int .i64 a.kind,.int .i64 a.call.kind,.int .i64 a.call.lba,v1,.int .i64 a.n,.int .i64 a.off,v2,v3]
def Ac.foe (a:Ac):Bool:=decide (a.kind=4)||decide (a.kind=6)
theorem qQU (a:Ac)(v1 v2 v3:Value)(w:World):Calls prog 18 #[.agg (qQT a v1 v2 v3)] w fun e w'=>e= .returned (.bool a.foe)∧qA4 w w':=by
 obtain⟨c,h,n,off,G,I⟩:=a
 unfold qQT Ac.foe
 simp only
 have l:qA4 w (w.alloc (.cells #[.int .i64 c,.int .i64 h.kind,.int .i64 h.lba,v1,.int .i64 n,.int .i64 off,v2,v3] 37)):=qal _
 have q:=Blk.new w #[.int .i64 c,.int .i64 h.kind,.int .i64 h.lba,v1,.int .i64 n,.int .i64 off,v2,v3] 37
 have F:=q.cell 0
 clear q
 by_cases j:c=4
 · rw[decide_eq_true j]
   subst j
   go_enter func18,ntmps18
   go_wp2
   go_ret
   exact⟨rfl,l⟩
 rw[decide_eq_false j]
 have J:(c==4)=false:=by simpa using j
 by_cases f:c=6
 · rw[decide_eq_true f]
   subst f
   go_enter func18,ntmps18
   go_wp2
   go_ret
   exact⟨rfl,l⟩
 rw[decide_eq_false f]
 have N:(c==6)=false:=by simpa using f
 go_enter func18,ntmps18
 go_wp2
 go_ret
 exact⟨rfl,l⟩
theorem qEF (kind lba:Int)(va:Option Addr)(vn vc:Nat)(w:World):Calls prog 15 #[.int .i64 kind,.int .i64 lba,.slice va vn vc] w fun e w'=>e= .returned (.agg #[.int .i64 1,.int .i64 kind,.int .i64 lba,.slice va vn vc,.int .i64 0,.int .i64 0,.slice none 0 0,.slice none 0 0])∧qA4 w w':=by
 go_enter func15,ntmps15
 go_wp2_with fail
 have c:=Blk.new w #[.int .i64 1,.int .i64 kind,.int .i64 lba,.slice va vn vc,.int .i64 0,.int .i64 0,.slice none 0 0,.slice none 0 0] 37
 have j:=c.cell 0
 have J:=c.cell 1
 have h:=c.cell 2
 have I:=c.cell 3
 have F:=c.cell 4
 have l:=c.cell 5
 have q:=c.cell 6
 have f:=c.cell 7
 have G:qA4 w (w.alloc (.cells #[.int .i64 1,.int .i64 kind,.int .i64 lba,.slice va vn vc,.int .i64 0,.int .i64 0,.slice none 0 0,.slice none 0 0] 37)):=qal _
 generalize (w.alloc (.cells #[.int .i64 1,.int .i64 kind,.int .i64 lba,.slice va vn vc,.int .i64 0,.int .i64 0,.slice none 0 0,.slice none 0 0] 37))=w1 at *
 refine bodyPost_ret (v:=.agg #[.int .i64 1,.int .i64 kind,.int .i64 lba,.slice va vn vc,.int .i64 0,.int .i64 0,.slice none 0 0,.slice none 0 0]) (by simp[results,results15,go_sem,j,J,h,I,F,l,q,f];try exact⟨rfl,rfl⟩) rfl ⟨rfl,G⟩
theorem qGb (c:Cl)(a:Option Addr)(cap:Nat)(hl:c.data.length≤1000000)(w:World):Calls prog 21 #[.agg #[.int .i64 c.kind,.int .i64 c.lba,.slice a c.data.length cap]] w fun e w'=>e= .returned (.bool c.is)∧qA4 w w':=by
 obtain⟨f,lb,l⟩:=c
 simp only at hl ⊢
 have j:qA4 w (w.alloc (.cells #[.int .i64 f,.int .i64 lb,.slice a l.length cap] 34)):=qal _
 have V:=Blk.new w #[.int .i64 f,.int .i64 lb,.slice a l.length cap] 34
 have q0:=V.cell 0
 have q1:=V.cell 1
 have q2:=V.cell 2
 clear V
 unfold Cl.is
 by_cases h1:0≤lb
 · by_cases h2:lb<32
   · rw[show isD lb=true by simp[isD];omega]
     simp only
     by_cases q:f=1
     · rw[if_pos q]
       subst q
       go_enter func21,ntmps21
       go_wp2
       go_ret
       exact⟨rfl,j⟩
     rw[if_neg q]
     have Y:(f==1)=false:=by simpa using q
     by_cases F:f=4
     · rw[if_pos F]
       subst F
       go_enter func21,ntmps21
       go_wp2
       go_ret
       exact⟨rfl,j⟩
     rw[if_neg F]
     have e4:(f==4)=false:=by simpa using F
     by_cases G:f=2
     · rw[if_pos G]
       subst G
       by_cases h:l.length=32
       · rw[decide_eq_true h]
         have N:((l.length:Int)==32)=true:=by rw[h];rfl
         have O:(l.length:Int)=32:=by omega
         clear h
         go_enter func21,ntmps21
         go_wp2
         go_ret
         exact⟨rfl,j⟩
       · rw[decide_eq_false h]
         have O:¬(l.length:Int)=32:=by omega
         have N:((l.length:Int)==32)=false:=by simpa using O
         go_enter func21,ntmps21
         go_wp2
         go_ret
         exact⟨rfl,j⟩
     rw[if_neg G]
     have Z:(f==2)=false:=by simpa using G
     by_cases J:f=3
     · rw[decide_eq_true J]
       subst J
       go_enter func21,ntmps21
       go_wp2
       go_ret
       exact⟨rfl,j⟩
     have e3:(f==3)=false:=by simpa using J
     rw[decide_eq_false J]
     by_cases I:f=5
     · rw[decide_eq_true I]
       subst I
       go_enter func21,ntmps21
       go_wp2
       go_ret
       exact⟨rfl,j⟩
     have N:(f==5)=false:=by simpa using I
     rw[decide_eq_false I]
     go_enter func21,ntmps21
     go_wp2
     go_ret
     exact⟨rfl,j⟩
   · rw[show isD lb=false by simp[isD];omega]
     simp only
     by_cases q:f=1
     · rw[if_pos q]
       subst q
       go_enter func21,ntmps21
       go_wp2
       go_ret
       exact⟨rfl,j⟩
     rw[if_neg q]
     have Y:(f==1)=false:=by simpa using q
     by_cases F:f=4
     · rw[if_pos F]
       subst F
       go_enter func21,ntmps21
       go_wp2
       go_ret
       exact⟨rfl,j⟩
     rw[if_neg F]
     have e4:(f==4)=false:=by simpa using F
     by_cases G:f=2
     · rw[if_pos G]
       subst G
       by_cases h:l.length=32
       · rw[decide_eq_true h]
         have N:((l.length:Int)==32)=true:=by rw[h];rfl
         have O:(l.length:Int)=32:=by omega
         clear h
         go_enter func21,ntmps21
         go_wp2
         go_ret
         exact⟨rfl,j⟩
       · rw[decide_eq_false h]
         have O:¬(l.length:Int)=32:=by omega
         have N:((l.length:Int)==32)=false:=by simpa using O
         go_enter func21,ntmps21
         go_wp2
         go_ret
         exact⟨rfl,j⟩
     rw[if_neg G]
     have Z:(f==2)=false:=by simpa using G
     by_cases J:f=3
     · rw[decide_eq_true J]
       subst J
       go_enter func21,ntmps21
       go_wp2
       go_ret
       exact⟨rfl,j⟩
     have e3:(f==3)=false:=by simpa using J
     rw[decide_eq_false J]
     by_cases I:f=5
     · rw[decide_eq_true I]
       subst I
       go_enter func21,ntmps21
       go_wp2
       go_ret
       exact⟨rfl,j⟩
     have N:(f==5)=false:=by simpa using I
     rw[decide_eq_false I]
     go_enter func21,ntmps21
     go_wp2
     go_ret
     exact⟨rfl,j⟩
 · rw[show isD lb=false by simp[isD];omega]
   simp only
   by_cases q:f=1
   · rw[if_pos q]
     subst q
     go_enter func21,ntmps21
     go_wp2
     go_ret
     exact⟨rfl,j⟩
   rw[if_neg q]
   have Y:(f==1)=false:=by simpa using q
   by_cases F:f=4
   · rw[if_pos F]
     subst F
     go_enter func21,ntmps21
     go_wp2
     go_ret
     exact⟨rfl,j⟩
   rw[if_neg F]
   have e4:(f==4)=false:=by simpa using F
   by_cases G:f=2
   · rw[if_pos G]
     subst G
     by_cases h:l.length=32
     · rw[decide_eq_true h]
       have N:((l.length:Int)==32)=true:=by rw[h];rfl
       have O:(l.length:Int)=32:=by omega
       clear h
       go_enter func21,ntmps21
       go_wp2
       go_ret
       exact⟨rfl,j⟩
     · rw[decide_eq_false h]
       have O:¬(l.length:Int)=32:=by omega
       have N:((l.length:Int)==32)=false:=by simpa using O
       go_enter func21,ntmps21
       go_wp2
       go_ret
       exact⟨rfl,j⟩
   rw[if_neg G]
   have Z:(f==2)=false:=by simpa using G
   by_cases J:f=3
   · rw[decide_eq_true J]
     subst J
     go_enter func21,ntmps21
     go_wp2
     go_ret
     exact⟨rfl,j⟩
   have e3:(f==3)=false:=by simpa using J
   rw[decide_eq_false J]
   by_cases I:f=5
   · rw[decide_eq_true I]
     subst I
     go_enter func21,ntmps21
     go_wp2
     go_ret
     exact⟨rfl,j⟩
   have N:(f==5)=false:=by simpa using I
   rw[decide_eq_false I]
   go_enter func21,ntmps21
   go_wp2
   go_ret
   exact⟨rfl,j⟩

theorem qQV (D:List UInt8)(k:Nat)(b:UInt8)(hk:k<D.length)(h:D.take k=List.replicate k b):(D.set k b).take (k+1)=List.replicate (k+1) b:=by
 rw[List.take_succ_eq_append_getElem (by simpa using hk),List.getElem_set_self,List.take_set_of_le qle,h,List.replicate_succ']
theorem qDQ (b:UInt8)(w:World):Calls prog 16 #[V8 b] w fun e w'=>e= .returned (.slice (some ⟨w.heap.size,0,none⟩) 32 32)∧w'.ownsRow w.heap.size 5 1 (.slice (some ⟨w.heap.size,0,none⟩) 32 32) 32 (qA1 (List.replicate 32 b))∧qA4 w w':=by
 obtain⟨Z,V⟩:∃Z,Z=List.replicate 32 (0:UInt8):=⟨_,rfl⟩
 have N:(Instr.makeSlice 32 (.int .i64 32) (.int .i64 32)).run prog w= .ok (.slice (some ⟨w.heap.size,0,none⟩) 32 32) (w.alloc (.cells (qA1 Z).toArray 5)):=by rw[V];exact qBU (P:=prog) w qAx .i64 .i64 32 (by omega)
 have l:Z.length=32:=by rw[V];simp
 have J:=qh l
 clear V l
 have q:=Blk.new w (qA1 Z).toArray 5
 have j:qA4 w (w.alloc (.cells (qA1 Z).toArray 5)):=qal _
 obtain⟨w0,G⟩:∃w0,w0=w.alloc (.cells (qA1 Z).toArray 5):=⟨_,rfl⟩
 rw[←G]at N q j
 clear G
 go_enter func16,ntmps16
 go_wp2_with fail
 go_loopw [4] (fun i wr=>∃(k:Nat) (D:List UInt8),i= .int .i64 k∧k≤32∧Hid (D.length=32)∧Hid (D.take k=List.replicate k b)∧Blk wr w.heap.size (qA1 D).toArray 5∧qA4 w wr) (fun i _=>32 - (intOf i).toNat)
 case atStart=>exact⟨0,Z,rfl,by omega,J,qh (by simp),q,j⟩
 case round =>
  obtain⟨k,D,rfl,hk,c,f,I,h⟩:=hrel
  by_cases F:k<32
  · have n1:(k:Int)<32:=by omega
    have n2:(0:Int)≤(k:Int):=by omega
    have f0:=I.free k
    obtain⟨u,Y⟩:∃u,wr.cell? ⟨w.heap.size,k,none⟩=some u:=⟨_,by rw[I.cell k,List.getElem?_toArray];exact qBT D k (by rw[c.out];exact F)⟩
    go_wp2
    refine⟨⟨k+1,D.set k b,by go_num,by omega,qh (by rw[List.length_set];exact c.out),qh (qQV D k b (by rw[c.out];exact F) f.out),?_,qAa h k _⟩,by simp[intOf];omega⟩
    rw[←qF7]
    exact I.set k (V8 b)
  · have O:k=32:=by omega
    subst O
    go_wp2
    go_ret
    have e:D=List.replicate 32 b:=by have:=f.out;rw[List.take_of_length_le (by rw[c.out];exact Nat.le_refl _)]at this;exact this
    refine⟨rfl,qCB 32 (by decide) _ _ (by simp) (by rw[←e];exact I) qle,h⟩
end Go.Proofs.YtdlgihbpiakebaaGreat
