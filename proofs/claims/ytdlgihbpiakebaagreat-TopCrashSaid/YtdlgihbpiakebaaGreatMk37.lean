import Derived.Test.YtdlgihbpiakebaaGreatMk04
import Derived.Test.YtdlgihbpiakebaaGreatMk07
import Derived.Test.YtdlgihbpiakebaaGreatMk12
import Derived.Test.YtdlgihbpiakebaaGreatMk14
import Derived.Test.YtdlgihbpiakebaaGreatMk15
import Derived.Test.YtdlgihbpiakebaaGreatMk17
import Derived.Test.YtdlgihbpiakebaaGreatMk32
import Derived.Test.YtdlgihbpiakebaaGreatMk36
set_option maxRecDepth 100000
set_option maxHeartbeats 4000000
namespace Go.Proofs.YtdlgihbpiakebaaGreat
open Go Go.RowKit Tryz
theorem qDC (iss:List Iss)(p:Iss→Bool)(k:Nat)(x:Iss)(hx:iss[k]? = some x)(hf:(iss.take k).find? p=none)(hp:p x=false):(iss.take (k+1)).find? p=none:=by
 rw[List.take_add_one,List.find?_append,hf,hx]
 simp[hp]
theorem qPv (iss:List Iss)(p:Iss→Bool)(k:Nat)(x:Iss)(hx:iss[k]? = some x)(hf:(iss.take k).find? p=none)(hp:p x=true):iss.find? p=some x:=by
 have hl:=(List.getElem?_eq_some_iff.1 hx).1
 conv=>lhs;rw[←List.take_append_drop k iss]
 rw[List.find?_append,hf,List.drop_eq_getElem_cons hl]
 have:iss[k]=x:=by rw[List.getElem?_eq_getElem hl]at hx;exact Option.some.inj hx
 rw[this]
 simp[hp]
theorem qKn (O m:Nat)(v vh vo:Value)(rs:List (Value×Value×Value))(iss:List Iss)(key tag:qAD)(n:Nn)(head out:List UInt8)(hil:iss.length≤100000)(hdl:∀x∈iss,x.data.length≤4000)(w:World)(hO:Blk w O #[v,.map (some m)] 182)(hI:qEf w v iss rs)(hh:Sl w vh head.length (qA1 head))(ho:Sl w vo out.length (qA1 out)) :
 Calls prog 65 #[.pointer (some ⟨O,0,none⟩),.agg #[U key.1,U key.2],(.agg #[W n.epoch,W n.slot,U n.version]),vh,.agg #[vo,U tag.1,U tag.2]] w fun e w'=>∃u,e= .returned (.tuple #[u,.bool (qEL iss key n head out tag).isSome])∧(∀d,qEL iss key n head out tag=some d→w'.ownsRow w.heap.size 5 1 u d.length (qA1 d))∧qA4 w w':=by
 obtain⟨ah,ch,rfl⟩:=hh.len
 obtain⟨ao,co,rfl⟩:=ho.len
 obtain⟨av,cv,hv⟩:=(Sl.of_own hI.row).len
 subst hv
 obtain⟨w0,q⟩:∃w0,w0=((w.alloc (.cells #[U key.1,U key.2] 115)).alloc (.cells #[W n.epoch,W n.slot,U n.version] 113)).alloc (.cells #[.slice ao out.length co,U tag.1,U tag.2] 165):=⟨_,rfl⟩
 have h:qA4 w w0:=by rw[q];exact((qal _).alloc (by simp) _).alloc (by simp;omega) _
 have bK:Blk w0 w.heap.size #[U key.1,U key.2] 115:=by rw[q];exact((Blk.new w _ _).kept (qal _)).kept (qal _)
 have bN:Blk w0 (w.heap.size+1) #[W n.epoch,W n.slot,U n.version] 113:=by
  rw[q]
  have:=Blk.new (w.alloc (.cells #[U key.1,U key.2] 115)) #[W n.epoch,W n.slot,U n.version] 113
  rw[World.size_alloc]at this
  exact this.kept (qal _)
 have bS:Blk w0 (w.heap.size+1+1) #[.slice ao out.length co,U tag.1,U tag.2] 165:=by
  rw[q]
  have:=Blk.new ((w.alloc (.cells #[U key.1,U key.2] 115)).alloc (.cells #[W n.epoch,W n.slot,U n.version] 113)) #[.slice ao out.length co,U tag.1,U tag.2] 165
  rw[World.size_alloc,World.size_alloc]at this
  exact this
 have q0:=(hO.kept h).cell 0
 have i1:(iss.length:Int)≤100000:=by omega
 have q9:=q0
 rw[q]at q9
 clear q0
 go_enter func65,ntmps65
 go_wp2_with fail
 rw[←q]
 clear q q9
 go_loopw [21] (fun i wr=>∃k:Nat,i= .int .i64 k∧k≤iss.length∧(iss.take k).find? (fun x=>x.opens key n head out tag)=none∧qA4 w0 wr) (fun i _=>iss.length - (intOf i).toNat)
 case atStart=>exact⟨0,rfl,by omega,by simp,Below.refl _ _⟩
 case round =>
  obtain⟨k,rfl,hk,N,c⟩:=hrel
  by_cases V:k<iss.length
  · have m1:(k:Int)<(iss.length:Int):=by omega
    have m2:(0:Int)≤(k:Int):=by omega
    obtain⟨g,cap,b7⟩:=qAy hI.row (by omega)
    cases b7
    have l:=List.getElem?_eq_getElem V
    obtain⟨x,hx⟩:∃x,x=iss[k]:=⟨_,rfl⟩
    rw[←hx]at l
    have b6:k<rs.length:=by rw[hI.len];exact V
    obtain⟨⟨r1,r2,r3⟩,hr⟩:∃r,rs[k]=r:=⟨_,rfl⟩
    have a9:rs[k]? = some (r1,r2,r3):=by rw[List.getElem?_eq_getElem b6,hr]
    obtain⟨s1,s2,s3⟩:=hI.each k x (r1,r2,r3) l a9
    simp only at s1 s2 s3
    have F:=qGd iss rs k x (r1,r2,r3) l a9
    obtain⟨b,off,c0,e',_,_,_,a6⟩:=((Sl.of_own hI.row).kept (h.of c)).at (by rw[qE6 _ _ hI.len];omega)
    cases e'
    have G:∀j u,[U x.key.1,U x.key.2,W x.nonce.epoch,W x.nonce.slot,U x.nonce.version,r1,r2,r3,U x.tag.1,U x.tag.2][j]? = some u→wr.cell? ⟨g,k*10+j,none⟩=some u:=fun j u hj=>by
     have:=a6 _ u (F j u hj)
     simpa using this
    obtain⟨a1,c1,rfl⟩:=s1.len
    obtain⟨a2,c2,rfl⟩:=s2.len
    obtain⟨a3,c3,rfl⟩:=s3.len
    have d0:wr.cell? ⟨g,k*10,none⟩=some (U x.key.1):=G 0 _ rfl
    have d1:=G 1 _ rfl
    have d2:=G 2 _ rfl
    have d3:=G 3 _ rfl
    have d4:=G 4 _ rfl
    have d5:=G 5 _ rfl
    have d6:=G 6 _ rfl
    have d7:=G 7 _ rfl
    have d8:=G 8 _ rfl
    have d9:=G 9 _ rfl
    clear G a6 F
    have HX:=qh hx
    clear hx
    have f:qA4 wr (wr.alloc (.cells (qFi x (.slice a1 x.head.length c1) (.slice a2 x.data.length c2) (.slice a3 x.out.length c3)) 184)):=qal _
    have Y:=(bK.kept c).kept f
    have I:=(bN.kept c).kept f
    have J:=(bS.kept c).kept f
    unfold qFi at f Y I J
    have k0:=Y.cell 0
    have k1:=Y.cell 1
    have n0:=I.cell 0
    have n1:=I.cell 1
    have n2:=I.cell 2
    have t0:=J.cell 0
    have t1:=J.cell 1
    have t2:=J.cell 2
    cases e0:((x.key.1,x.key.2)==(key.1,key.2))
    · have E0:(x.key==key)=false:=by rw[←e0]
      go_wp2_with fail
      exact⟨⟨k+1,rfl,by omega,qDC _ _ k x l N (by unfold Iss.opens;simp[E0]),c.of f⟩,by simp[intOf];omega⟩
    have E0:(x.key==key)=true:=by rw[←e0]
    cases e1:(qSc ⟨x.nonce.epoch,x.nonce.slot,x.nonce.version⟩ ⟨n.epoch,n.slot,n.version⟩)
    · have E1:(x.nonce==n)=false:=by rw[←e1];unfold qSc;rfl
      go_wp2_with fail
      exact⟨⟨k+1,rfl,by omega,qDC _ _ k x l N (by unfold Iss.opens;simp[E1]),c.of f⟩,by simp[intOf];omega⟩
    have E1:(x.nonce==n)=true:=by rw[←e1];unfold qSc;rfl
    cases e2:((x.tag.1,x.tag.2)==(tag.1,tag.2))
    · have E2:(x.tag==tag)=false:=by rw[←e2]
      go_wp2_with fail
      exact⟨⟨k+1,rfl,by omega,qDC _ _ k x l N (by unfold Iss.opens;simp[E2]),c.of f⟩,by simp[intOf];omega⟩
    have E2:(x.tag==tag)=true:=by rw[←e2]
    obtain⟨B0,a0⟩:∃b,b=(x.head==head):=⟨_,rfl⟩
    have a7:=qHf _ _ _ _ _ (((s1).kept (h.of c)).kept f) (((hh).kept (h.of c)).kept f)
    rw[←a0]at a7
    have a4:=qh a0
    clear a0
    obtain⟨B1,Z⟩:∃b,b=(x.out==out):=⟨_,rfl⟩
    have a5:=qHf _ _ _ _ _ (((s3).kept (h.of c)).kept f) (((ho).kept (h.of c)).kept f)
    rw[←Z]at a5
    have b3:=qh Z
    clear Z
    have CL:=qAZ _ x.data (by have:=hdl x (by rw[HX.out];exact List.getElem_mem V);omega) _ (((s2).kept (h.of c)).kept f)
    rw[World.size_alloc]at CL
    go_wp2_with fail
    refine a7.mono ?_
    rintro e w1 ⟨rfl,rfl⟩
    cases B0 with
    | false =>
     have E3:(x.head==head)=false:=a4.out.symm
     go_wp2_with fail
     exact⟨⟨k+1,rfl,by omega,qDC _ _ k x l N (by unfold Iss.opens;simp[E3]),c.of f⟩,by simp[intOf];omega⟩
    | true =>
     have E3:(x.head==head)=true:=a4.out.symm
     go_wp2_with fail
     refine a5.mono ?_
     rintro e w1 ⟨rfl,rfl⟩
     cases B1 with
     | false =>
      have E4:(x.out==out)=false:=b3.out.symm
      go_wp2_with fail
      exact⟨⟨k+1,rfl,by omega,qDC _ _ k x l N (by unfold Iss.opens;simp[E4]),c.of f⟩,by simp[intOf];omega⟩
     | true =>
      have E4:(x.out==out)=true:=b3.out.symm
      go_wp2_with fail
      refine CL.mono ?_
      rintro e w1 ⟨u,rfl,b9,b8⟩
      go_wp2_with fail
      have a8:qEL iss key n head out tag=some x.data:=by unfold qEL;rw[qPv _ _ k x l N (by unfold Iss.opens;rw[E0,E1,E2,E3,E4];rfl)];rfl
      rw[a8]
      refine bodyPost_ret (v:=.tuple #[u,.bool true]) (by simp[results,results65,go_sem]) rfl ⟨_,rfl,?_,(h.of c).of (f.of b8)⟩
      rintro d ⟨rfl⟩
      exact qAh b9 (by have:=h.size;have:=c.size;omega)
  · go_wp2_with fail
    have b5:k=iss.length:=by omega
    subst b5
    rw[List.take_length]at N
    have b4:qEL iss key n head out tag=none:=by unfold qEL;rw[N];rfl
    rw[b4]
    refine bodyPost_ret (v:=.tuple #[.slice none 0 0,.bool false]) (by simp[results,results65,go_sem]) rfl ⟨_,rfl,by simp,h.of c⟩
def qE2 (number len:Nat):List UInt8:=(Lib.repeatL (qAI (BitVec.ofNat 64 number) 8) (len / 8+1)).take len
theorem qBI (number len:Nat):(qE2 number len).length=len:=by
 unfold qE2
 rw[List.length_take,qDx _ _ (qA9 _ _)]
 omega
def qEN (iss:List Iss)(key:qAD)(n:Nn)(head data:List UInt8):Iss:=⟨key,n,head,data,qE2 (iss.length+1) data.length,(18446744073709551615#64,BitVec.ofNat 64 (iss.length+1))⟩
theorem qSe:SlT prog 179 184 10 120 (.agg #[U 0#64,U 0#64,W 0#32,W 0#32,U 0#64,.slice none 0 0,.slice none 0 0,.slice none 0 0,U 0#64,U 0#64]):=SlT.mk' underlying179 (by kernel_rfl) rfl (by omega)
structure One (i:Nat)(col col':Nat→Nat)(w w':World):Prop where
 os:w'.os=w.os
 tape:w'.tape=w.tape
 output:w'.output=w.output
 size:w.heap.size≤w'.heap.size
 old:∀k,k<w.heap.size→col' k=col k
 new:∀k,w.heap.size≤k→col' k=0∨col' k=i
 top:∀k,w'.heap.size≤k→col' k=0
 block:∀k,k<w.heap.size→col k≠i→w'.heap[k]? = w.heap[k]?
theorem One.ext {i m:Nat}{col col':Nat→Nat}{w w':World}(h:One i col col' w w')(h1:1≤i)(hm:i≤m):Ext m col col' w w':=
 ⟨h.os,h.tape,h.output,h.size,h.old,fun k c=>by have:=h.new k c;omega,h.top,fun k c f=>h.block k c (by omega)⟩
theorem One.same {i j:Nat}{col col':Nat→Nat}{w w':World}(h:One i col col' w w')(hj:j≠i):qB0 j col col' w w':=⟨h.size,fun k c f=>(h.old k c).trans f,fun k c f=>h.block k c (by omega)⟩
theorem One.kept {i:Nat}{col:Nat→Nat}{w w':World}(ht:Top col w)(h:qA4 w w'):One i col col w w':=
 ⟨h.os,h.tape,h.output,h.size,fun _ _=>rfl,fun k c=>.inl (ht k c),fun k c=>ht k (Nat.le_trans h.size c),fun k c _=>h.block k c⟩
theorem One.trans {i:Nat}{col col' col'':Nat→Nat}{w w' w'':World}(h:One i col col' w w')(k:One i col' col'' w' w''):One i col col'' w w'':=
 ⟨k.os.trans h.os,k.tape.trans h.tape,k.output.trans h.output,Nat.le_trans h.size k.size,
  fun i c=>(k.old i (Nat.lt_of_lt_of_le c h.size)).trans (h.old i c),
  fun i c=>by
   by_cases j:i<w'.heap.size
   · rw[k.old i j];exact h.new i c
   · exact k.new i (by omega),
  k.top,
  fun i c f=>(k.block i (Nat.lt_of_lt_of_le c h.size) (by rw[h.old i c];exact f)).trans (h.block i c f)⟩
theorem One.chg {i:Nat}{bs:List Nat}{col:Nat→Nat}{w w':World}(ht:Top col w)(h:Chg bs w w')(hb:∀b∈bs,col b=i):One i col col w w':=
 ⟨h.os,h.tape,h.output,h.size,fun _ _=>rfl,fun k c=>.inl (ht k c),fun k c=>ht k (Nat.le_trans h.size c),fun k c f=>h.block k c fun j=>f (hb k j)⟩
theorem qCe.chgN {w w':World}{bs:List Nat}{m:Nat}{sums:List (List UInt8)}(h:qCe w m sums)(hc:Chg bs w w')(hm:m∉bs):qCe w' m sums:=by
 obtain⟨D,f,G,F,j⟩:=h
 have hl:=f.lt
 obtain⟨l,c,q,r⟩:=f
 exact⟨D,⟨l,c,(hc.block m hl hm).trans q,r⟩,G,F,j⟩
theorem qHX {w:World}{O m:Nat}{v u:Value}{bs:List UInt8}(hv:∃a n c,v= .slice a n c)(bO:Blk w O #[v,.map (some m)] 182)(h:Sl w u bs.length (qA1 bs)):qKj O u:=fun a n c e hn j=>by
 obtain⟨G,I,F,rfl⟩:=hv
 rcases h with ⟨h0,_⟩|⟨a2,c2,h1,h2,h3,h4⟩
 · rw[h0]at e;cases e
 · rw[h1]at e
   cases e
   have l:=qBT bs 0 hn
   have:=h4 0 _ l
   rw[Addr.add_zero']at this
   have f:=World.cell?_spot this
   obtain⟨b,off,q⟩:=a
   simp only at j f
   subst j
   subst f
   unfold Blk at bO
   unfold World.cell? at this
   simp only[bO]at this
   match off with
   | 0=>simp[V8]at this
   | 1=>simp[V8]at this
   | k+2=>simp at this
theorem OrC.push {col:Nat→Nat}{w zA z2 wF:World}{O m:Nat}{v v':Value}{rs:List (Value×Value×Value)}{iss:List Iss}{sums:List (List UInt8)}(x:Iss)(r:Value×Value×Value)
 (bO:Blk w O #[v,.map (some m)] 182) (hI:qEf w v iss rs) (hS:qCe w m sums) (cO:col O=5) (cm:col m=5) (cI:qLb col v rs) (ht:Top col w)
 (hA:w.heap.size≤zA.heap.size) (h2:zA.heap.size≤z2.heap.size) (hFz:z2.heap.size≤wF.heap.size)
 (hown:wF.ownsRow 0 184 10 v' (iss.length+1) (qBY iss rs++ [U x.key.1,U x.key.2,W x.nonce.epoch,W x.nonce.slot,U x.nonce.version,r.1,r.2.1,r.2.2,U x.tag.1,U x.tag.2]))
 (hat:v'.ownBlock=v.ownBlock∨v'.ownBlock=some zA.heap.size) (hlt:∀g,v'.ownBlock=some g→g<z2.heap.size)
 (bOF:Blk wF O #[v',.map (some m)] 182) (hcF:Chg (O::v.ownBlock.toList) w wF)
 (s1:Sl wF r.1 x.head.length (qA1 x.head)) (s2:Sl wF r.2.1 x.data.length (qA1 x.data)) (s3:Sl wF r.2.2 x.out.length (qA1 x.out))
 (lo:∀s∈ [r.1,r.2.1,r.2.2],∀a n c,s= .slice (some a) n c→0<n→w.heap.size≤a.block∧a.block<zA.heap.size) :
 OrC (qAi col 5 w z2) wF O (iss++ [x]) sums∧One 5 col (qAi col 5 w z2) w wF:=by
 have hv:∃a n c,v= .slice a n c:=by obtain⟨a,c,e⟩:=(Sl.of_own hI.row).len;exact⟨a,_,c,e⟩
 have a2:=bO.lt
 have a3:m<w.heap.size:=by obtain⟨D,h1,_⟩:=hS;exact h1.lt
 have N:∃es l,w.heap[m]? = some (.map es l):=by
  obtain⟨D,⟨es,l,Z,_⟩,_⟩:=hS
  exact⟨es,l,Z⟩
 have a5:m∉O::v.ownBlock.toList:=fun hm=>by
  obtain⟨es,l,N⟩:=N
  rcases List.mem_cons.1 hm with rfl|h
  · exact absurd (bO.symm.trans N) (by simp)
  · obtain⟨c,hc⟩:=qAq hI.row (qAt.1 h)
    exact absurd (hc.symm.trans N) (by simp)
 have c5:∀b∈O::v.ownBlock.toList,col b=5:=fun b hb=>by
  rcases List.mem_cons.1 hb with rfl|h
  · exact cO
  · exact cI.row b (qAt.1 h)
 have old:∀(u:Value) (bs:List UInt8),Sl w u bs.length (qA1 bs)→(∀g,v.ownBlock=some g→qKj g u)→qIW col u→Sl wF u bs.length (qA1 bs)∧qIW (qAi col 5 w z2) u∧(∀g,v'.ownBlock=some g→qKj g u):=fun u bs hs hn hc=>by
  have Y:∀a n c,u= .slice (some a) n c→0<n→a.block<w.heap.size:=fun a n c e hp=>by
   obtain⟨a',c',e'⟩:=hs.len
   subst e'
   cases e
   exact Sl.low hs _ _ rfl (by rw[qA7];exact hp)
  refine⟨Chg.sl hs hcF fun a c e hl hm=>?_,fun a n c e G=>?_,fun g f a n c e G=>?_⟩
  · rw[qA7]at hl
    rcases List.mem_cons.1 hm with h|h
    · exact qHX hv bO hs a _ c e hl h
    · exact hn _ (qAt.1 h) a _ c e hl rfl
  · rw[qAd (Y a n c e G)]
    exact hc a n c e G
  · rcases hat with h|h
    · exact hn g (h ▸ f) a n c e G
    · rw[h]at f
      cases f
      have:=Y a n c e G
      omega
 have new:∀(u:Value),(∀a n c,u= .slice (some a) n c→0<n→w.heap.size≤a.block∧a.block<zA.heap.size)→qIW (qAi col 5 w z2) u∧(∀g,v'.ownBlock=some g→qKj g u):=fun u hl=>by
  refine⟨fun a n c e hn=>?_,fun g f a n c e hn=>?_⟩
  · obtain⟨J,h4⟩:=hl a n c e hn
    exact qAk J (by omega)
  · obtain⟨J,h4⟩:=hl a n c e hn
    rcases hat with h|h
    · rw[h]at f
      have:=qAp hI.row f
      omega
    · rw[h]at f
      cases f
      omega
 have a1:=hI.len
 refine⟨⟨v',rs++ [r],m,bOF,⟨?_,by simp[hI.len],fun i y q hy j=>?_,fun q j g f=>?_⟩,hS.chgN hcF a5,by rw[qAd a2];exact cO,by rw[qAd a3];exact cm,fun g f=>?_,fun q j=>?_⟩,⟨hcF.os,hcF.tape,hcF.output,hcF.size,fun k hk=>qAd hk,fun k hk=>?_,fun k hk=>?_,fun k hk hc=>hcF.block k hk fun hm=>hc (c5 k hm)⟩⟩
 · rw[qFB _ _ _ _ hI.len,List.length_append]
   exact hown
 · by_cases V:i<iss.length
   · rw[List.getElem?_append_left V]at hy
     rw[List.getElem?_append_left (by rw[a1];exact V)]at j
     obtain⟨h1,I,J⟩:=hI.each i y q hy j
     have F:=hI.apart q (List.mem_of_getElem? j)
     obtain⟨Z,k2,k3⟩:=cI.e q (List.mem_of_getElem? j)
     exact⟨(old _ _ h1 (fun g f=>(F g f).1) Z).1,(old _ _ I (fun g f=>(F g f).2.1) k2).1,(old _ _ J (fun g f=>(F g f).2.2) k3).1⟩
   · rw[List.getElem?_append_right (by omega)]at hy
     rw[List.getElem?_append_right (by omega)]at j
     rw[a1]at j
     have a4:i - iss.length=0:=by
      have:=(List.getElem?_eq_some_iff.1 hy).1
      simp at this;omega
     rw[a4]at hy j
     simp at hy j
     subst hy;subst j
     exact⟨s1,s2,s3⟩
 · rcases List.mem_append.1 j with j|j
   · obtain⟨i,V⟩:=List.getElem?_of_mem j
     have a0:i<iss.length:=by rw[←hI.len];exact(List.getElem?_eq_some_iff.1 V).1
     obtain⟨h1,I,J⟩:=hI.each i _ q (List.getElem?_eq_getElem a0) V
     have F:=hI.apart q j
     obtain⟨Z,k2,k3⟩:=cI.e q j
     exact⟨(old _ _ h1 (fun g f=>(F g f).1) Z).2.2 g f,(old _ _ I (fun g f=>(F g f).2.1) k2).2.2 g f,(old _ _ J (fun g f=>(F g f).2.2) k3).2.2 g f⟩
   · rw[List.mem_singleton]at j
     subst j
     exact⟨(new q.1 (lo _ (by simp))).2 g f,(new q.2.1 (lo _ (by simp))).2 g f,(new q.2.2 (lo _ (by simp))).2 g f⟩
 · rcases hat with h|h
   · rw[h]at f
     rw[qAd (qAp hI.row f)]
     exact cI.row g f
   · have:=hlt g f
     rw[h]at f
     cases f
     exact qAk hA this
 · rcases List.mem_append.1 j with j|j
   · obtain⟨i,V⟩:=List.getElem?_of_mem j
     have a0:i<iss.length:=by rw[←hI.len];exact(List.getElem?_eq_some_iff.1 V).1
     obtain⟨h1,I,J⟩:=hI.each i _ q (List.getElem?_eq_getElem a0) V
     have F:=hI.apart q j
     obtain⟨Z,k2,k3⟩:=cI.e q j
     exact⟨(old _ _ h1 (fun g f=>(F g f).1) Z).2.1,(old _ _ I (fun g f=>(F g f).2.1) k2).2.1,(old _ _ J (fun g f=>(F g f).2.2) k3).2.1⟩
   · rw[List.mem_singleton]at j
     subst j
     exact⟨(new q.1 (lo _ (by simp))).1,(new q.2.1 (lo _ (by simp))).1,(new q.2.2 (lo _ (by simp))).1⟩
 · by_cases J:k<z2.heap.size
   · exact .inr (qAk hk J)
   · left
     unfold qAi
     rw[if_neg (by omega)]
     exact ht k hk
 · unfold qAi
   rw[if_neg (by omega)]
   exact ht k (by omega)
theorem qNA (a b c d e f g h i j:Value)(w:World):(Instr.field 184 (.agg #[a,b,c,d,e,f,g,h,i,j]) 4).run prog w= .ok (.agg #[h,i,j]) w:=by kernel_rfl
theorem qKo (col:Nat→Nat)(O:Nat)(iss:List Iss)(sums:List (List UInt8))(key:qAD)(n:Nn)(vh vd:Value)(head data:List UInt8)(hil:iss.length≤100000)(hlh:head.length≤4000)(hld:data.length≤4000)(w:World)(h:OrC col w O iss sums)(ht:Top col w)(sh:Sl w vh head.length (qA1 head))(sd:Sl w vd data.length (qA1 data)) :
 Calls prog 64 #[.pointer (some ⟨O,0,none⟩),.agg #[U key.1,U key.2],(.agg #[W n.epoch,W n.slot,U n.version]),vh,vd] w fun e w'=>∃u col',e= .returned (.tuple #[.agg #[u,U 18446744073709551615#64,U (BitVec.ofNat 64 (iss.length+1))],.bool true])∧w'.ownsRow w.heap.size 5 1 u data.length (qA1 (qE2 (iss.length+1) data.length))∧(∀g,u.ownBlock=some g→col' g=0)∧OrC col' w' O (iss++ [qEN iss key n head data]) sums∧One 5 col col' w w'∧(∀b cs t,Blk w b cs t→182≠t→184≠t→Blk w' b cs t):=by
 obtain⟨v,rs,m,bO,hI,hS,cO,cm,cI⟩:=h
 obtain⟨ah,ch,rfl⟩:=sh.len
 obtain⟨ad,cd,rfl⟩:=sd.len
 obtain⟨av,cv,hv⟩:=(Sl.of_own hI.row).len
 subst hv
 obtain⟨H,hH⟩:∃H,H=head.length:=⟨_,rfl⟩
 obtain⟨D,hD⟩:∃D,D=data.length:=⟨_,rfl⟩
 obtain⟨L,hL⟩:∃L,L=iss.length:=⟨_,rfl⟩
 rw[←hH]at hlh
 rw[←hD]at hld
 rw[←hL]at hil
 rw[←hL]at bO
 obtain⟨w0,a4⟩:∃w0,w0=(((w.alloc (.cells #[U key.1,U key.2] 115)).alloc (.cells #[W n.epoch,W n.slot,U n.version] 113)).alloc (.cells #[.slice none 0 0,U 0#64,U 0#64] 165)):=⟨_,rfl⟩
 have b9:qA4 w w0:=by rw[a4];exact((qal _).alloc (by simp) _).alloc (by simp;omega) _
 have bK:Blk w0 w.heap.size #[U key.1,U key.2] 115:=by rw[a4];exact((Blk.new w _ _).kept (qal _)).kept (qal _)
 have bN:Blk w0 (w.heap.size+1) #[W n.epoch,W n.slot,U n.version] 113:=by
  rw[a4]
  have:=Blk.new (w.alloc (.cells #[U key.1,U key.2] 115)) #[W n.epoch,W n.slot,U n.version] 113
  rw[World.size_alloc]at this
  exact this.kept (qal _)
 have bZ:Blk w0 (w.heap.size+1+1) #[.slice none 0 0,U 0#64,U 0#64] 165:=by
  rw[a4]
  have:=Blk.new ((w.alloc (.cells #[U key.1,U key.2] 115)).alloc (.cells #[W n.epoch,W n.slot,U n.version] 113)) #[.slice none 0 0,U 0#64,U 0#64] 165
  rw[World.size_alloc,World.size_alloc]at this
  exact this
 have q0:=(bO.kept b9).cell 0
 rw[a4]at q0
 have i1:(H:Int)≤4000:=by omega
 have i2:(D:Int)≤4000:=by omega
 have i3:¬4000<(H:Int):=by omega
 have i4:¬4000<(D:Int):=by omega
 have i5:(L:Int)≤100000:=by omega
 have i6:IntKind.i64.wrap ((L:Int)+1)=(L:Int)+1:=by rw[IntKind.wrap_i64];omega
 obtain⟨no,c7⟩:∃no,no=BitVec.ofNat 64 (L+1):=⟨_,rfl⟩
 have l5:∀wx:World,(convert 3 29 (.int .i64 ((L:Int)+1))).run prog wx= .ok (U no) wx:=fun wx=>by
  rw[qAH wx 3 29 _ .u64 _ (by kernel_rfl) underlying29,qDq,c7,show((L:Int)+1)=((L+1:Nat):Int) by omega]
  rfl
 have HH:=qh hH
 have HD:=qh hD
 have HL:=qh hL
 have HN:=qh c7
 rw[←hH]at sh ⊢
 rw[←hD]at sd ⊢
 clear hH hD hL c7
 go_enter func64,ntmps64
 go_wp2_with fail
 rw[←a4]
 clear a4 q0
 refine(qAS no 8 (by omega) (by omega) w0).mono ?_
 rintro e w1 ⟨r,rfl,Z,k1⟩
 obtain⟨ra,rc,rfl⟩:=(Sl.of_own Z).len
 obtain⟨C,hC⟩:∃C,C=D / 8+1:=⟨_,rfl⟩
 have j1:IntKind.i64.wrap ((D:Int).tdiv 8+1)=(C:Int):=by rw[Int.tdiv_eq_ediv_of_nonneg (by omega),IntKind.wrap_i64];omega
 have j2:D≤C*8:=by omega
 have j3:C≤1000:=by omega
 have j4:1≤C:=by omega
 have HC:=qh hC
 clear hC
 go_wp2_with fail
 rw[show((D:Int) / 8+1)=(C:Int) by rw[HC.out];omega]
 refine(qLU _ (qAI no 8) C (qA9 _ _) j4 j3 w1 (by rw[qA9];exact Sl.of_own Z)).mono ?_
 rintro e w2 ⟨g,rfl,so,l0,k2⟩
 have a9:(Lib.repeatL (qAI no 8) C).length=C*8:=qDx _ _ (qA9 _ _)
 have i8:=so
 replace so:Sl w2 (.slice (some ⟨g,0,none⟩) (C*8) (C*8)) (Lib.repeatL (qAI no 8) C).length (qA1 (Lib.repeatL (qAI no 8) C)):=by rw[a9];exact i8
 replace a9:=qh a9
 clear i8
 replace j3:((D:Int)≤((C*8:Nat):Int)):=by omega
 have j5:(0:Int)≤(D:Int):=by omega
 go_wp2_with fail
 have a5:=k1.of k2
 have c9:=b9.of a5
 have i0:=bK.kept a5
 have h7:=bN.kept a5
 refine qBj w2.heap.size [(0,0),(1,0),(2,0),(4,0),(6,0),(7,0),(8,0),(9,0),(10,0)] (.light 0 (.light 1 (.light 2 (.light 4 (.light 6 (.light 7 (.light 8 (.light 9 (.two 3 11 (.two 5 11 (.light 10 (.heavy 11 (.heavy 12 .nil))) (.heavy 5 (.light 10 (.heavy 12 .nil)))) (.heavy 3 (.heavy 5 (.light 10 (.heavy 12 .nil))))))))))))) (by kernel_rfl) (by kernel_rfl) ?_
 intro w3 Y
 have kS:=c9.of Y
 have f:qA4 w3 w3:=Below.refl _ _
 refine qA2 _ rfl (fun J l=>?_)
 refine qqP (by rfl) ?_;apply Exists.intro;refine⟨fun w' V=>?_,l _ ?_⟩
 · have c:=((i0.kept Y).below V i0.lt);have c0:=c.cell 0;have c1:=c.cell 1;clear c;go_simp;first|done|rfl
 clear l J;simp only[Act.put,qqB]
 refine qA2 _ rfl (fun J l=>?_)
 refine qqP (by rfl) ?_;apply Exists.intro;refine⟨fun w' V=>?_,l _ ?_⟩
 · have c:=((h7.kept Y).below V h7.lt);have c0:=c.cell 0;have c1:=c.cell 1;have c2:=c.cell 2;clear c;go_simp;first|done|rfl
 clear l J;simp only[Act.put,qqB]
 refine qA2 _ rfl (fun J l=>?_)
 refine qqP (by rfl) ?_;apply Exists.intro;refine⟨fun w' V=>?_,l _ ?_⟩
 · go_simp;first|done|rfl
 clear l J;simp only[Act.put,qqB]
 refine qA2 _ rfl (fun J l=>?_)
 refine qqP (by rfl) ?_;apply Exists.intro;refine⟨fun w' V=>?_,l _ ?_⟩
 · go_simp;first|done|rfl
 clear l J;simp only[Act.put,qqB]
 refine qA2 _ rfl (fun J l=>?_)
 refine qqP (by rfl) ?_;apply Exists.intro;refine⟨fun w' V=>?_,l _ ?_⟩
 · go_simp;first|done|rfl
 clear l J;simp only[Act.put,qqB]
 refine qA2 _ rfl (fun J l=>?_)
 refine qqP (by rfl) ?_;apply Exists.intro;refine⟨fun w' V=>?_,l _ ?_⟩
 · go_simp;first|done|rfl
 clear l J;simp only[Act.put,qqB]
 refine qA2 _ rfl (fun J l=>?_)
 refine qqP (by rfl) ?_;apply Exists.intro;refine⟨fun w' V=>?_,l _ ?_⟩
 · go_simp;first|done|rfl
 clear l J;simp only[Act.put,qqB]
 refine qA2 _ rfl (fun J l=>?_)
 refine qqP (by rfl) ?_;apply Exists.intro;refine⟨fun w' V=>?_,l _ ?_⟩
 · go_simp;first|done|rfl
 clear l J;simp only[Act.put,qqB]
 refine qC2 ?_ ?_
 focus
  refine qAc _ rfl (fun J l=>?_)
  refine qqP (by rfl) ?_
  go_wp2_with fail
  refine(qAZ _ head (by rw[←HH.out];omega) _ (by rw[←HH.out];exact sh.kept ((kS.of f)))).mono ?_
  rintro e y1 ⟨u,rfl,Z,kc⟩
  rw[←HH.out]at Z
  obtain⟨b1,d1,rfl⟩:=(Sl.of_own Z).len
  replace Z:=qAh Z (f.size)
  have q:=Nat.le_trans Y.size f.size
  replace f:=qA4.of f kc
  go_wp2
  refine l _ _ (kc.mono q) ?_
  clear l J
  try simp only[Act.put,qqB]
  clear kc q
  refine qC2 ?_ ?_
  focus
   refine qAc _ rfl (fun J l=>?_)
   refine qqP (by rfl) ?_
   go_wp2_with fail
   refine(qAZ _ data (by rw[←HD.out];omega) _ (by rw[←HD.out];exact sd.kept ((kS.of f)))).mono ?_
   rintro e y2 ⟨u,rfl,o2,kc⟩
   rw[←HD.out]at o2
   obtain⟨b2,d2,rfl⟩:=(Sl.of_own o2).len
   replace o2:=qAh o2 (f.size)
   have q:=Nat.le_trans Y.size f.size
   replace Z:=qA5 Z kc
   replace f:=qA4.of f kc
   go_wp2
   refine l _ _ (kc.mono q) ?_
   clear l J
   try simp only[Act.put,qqB]
   clear kc q
   refine qA2 _ rfl (fun J l=>?_)
   refine qqP (by rfl) ?_;apply Exists.intro;refine⟨fun w' V=>?_,l _ ?_⟩
   · go_simp;first|done|rfl
   clear l J;simp only[Act.put,qqB]
   refine qAc _ rfl (fun J l=>?_)
   refine qqP (by rfl) ?_
   have kz:qA4 y2 (y2.alloc (.cells #[U 0#64,U 0#64,W 0#32,W 0#32,U 0#64,.slice none 0 0,.slice none 0 0,.slice none 0 0,U 0#64,U 0#64] 184)):=qal _
   have q:=Nat.le_trans Y.size f.size
   have I:w2.heap.size≤y2.heap.size:=q
   have G:=Blk.new y2 #[U 0#64,U 0#64,W 0#32,W 0#32,U 0#64,.slice none 0 0,.slice none 0 0,.slice none 0 0,U 0#64,U 0#64] 184
   replace Z:=qA5 Z kz
   replace o2:=qA5 o2 kz
   replace f:=qA4.of f kz
   obtain⟨j,F⟩:∃j,j=y2.heap.size:=⟨_,rfl⟩
   rw[←F]at G I
   go_wp2
   refine l _ _ (kz.mono q) ?_
   clear l J
   try simp only[Act.put,qqB]
   rw[←F]
   generalize (y2.alloc (.cells #[U 0#64,U 0#64,W 0#32,W 0#32,U 0#64,.slice none 0 0,.slice none 0 0,.slice none 0 0,U 0#64,U 0#64] 184))=y3 at *
   clear kz q F
  rotate_left
  focus
   refine qAc _ rfl (fun J l=>?_)
   refine qqP (by rfl) ?_
   have kz:qA4 y1 (y1.alloc (.cells #[U 0#64,U 0#64,W 0#32,W 0#32,U 0#64,.slice none 0 0,.slice none 0 0,.slice none 0 0,U 0#64,U 0#64] 184)):=qal _
   have q:=Nat.le_trans Y.size f.size
   have I:w2.heap.size≤y1.heap.size:=q
   have G:=Blk.new y1 #[U 0#64,U 0#64,W 0#32,W 0#32,U 0#64,.slice none 0 0,.slice none 0 0,.slice none 0 0,U 0#64,U 0#64] 184
   replace Z:=qA5 Z kz
   replace f:=qA4.of f kz
   obtain⟨j,F⟩:∃j,j=y1.heap.size:=⟨_,rfl⟩
   rw[←F]at G I
   go_wp2
   refine l _ _ (kz.mono q) ?_
   clear l J
   try simp only[Act.put,qqB]
   rw[←F]
   generalize (y1.alloc (.cells #[U 0#64,U 0#64,W 0#32,W 0#32,U 0#64,.slice none 0 0,.slice none 0 0,.slice none 0 0,U 0#64,U 0#64] 184))=y2 at *
   clear kz q F
   refine qAc _ rfl (fun J l=>?_)
   refine qqP (by rfl) ?_
   go_wp2_with fail
   refine(qAZ _ data (by rw[←HD.out];omega) _ (by rw[←HD.out];exact sd.kept ((kS.of f)))).mono ?_
   rintro e y3 ⟨u,rfl,o2,kc⟩
   rw[←HD.out]at o2
   obtain⟨b2,d2,rfl⟩:=(Sl.of_own o2).len
   replace o2:=qAh o2 (f.size)
   have q:=Nat.le_trans Y.size f.size
   replace Z:=qA5 Z kc
   replace G:=Blk.kept G kc
   replace f:=qA4.of f kc
   go_wp2
   refine l _ _ (kc.mono q) ?_
   clear l J
   try simp only[Act.put,qqB]
   clear kc q
   refine qA2 _ rfl (fun J l=>?_)
   refine qqP (by rfl) ?_;apply Exists.intro;refine⟨fun w' V=>?_,l _ ?_⟩
   · go_simp;first|done|rfl
   clear l J;simp only[Act.put,qqB]
 rotate_left 2
 focus
  refine qAc _ rfl (fun J l=>?_)
  refine qqP (by rfl) ?_
  have kz:qA4 w3 (w3.alloc (.cells #[U 0#64,U 0#64,W 0#32,W 0#32,U 0#64,.slice none 0 0,.slice none 0 0,.slice none 0 0,U 0#64,U 0#64] 184)):=qal _
  have q:=Nat.le_trans Y.size f.size
  have I:w2.heap.size≤w3.heap.size:=q
  have G:=Blk.new w3 #[U 0#64,U 0#64,W 0#32,W 0#32,U 0#64,.slice none 0 0,.slice none 0 0,.slice none 0 0,U 0#64,U 0#64] 184
  replace f:=qA4.of f kz
  obtain⟨j,F⟩:∃j,j=w3.heap.size:=⟨_,rfl⟩
  rw[←F]at G I
  go_wp2
  refine l _ _ (kz.mono q) ?_
  clear l J
  try simp only[Act.put,qqB]
  rw[←F]
  generalize (w3.alloc (.cells #[U 0#64,U 0#64,W 0#32,W 0#32,U 0#64,.slice none 0 0,.slice none 0 0,.slice none 0 0,U 0#64,U 0#64] 184))=y1 at *
  clear kz q F
  refine qAc _ rfl (fun J l=>?_)
  refine qqP (by rfl) ?_
  go_wp2_with fail
  refine(qAZ _ head (by rw[←HH.out];omega) _ (by rw[←HH.out];exact sh.kept ((kS.of f)))).mono ?_
  rintro e y2 ⟨u,rfl,Z,kc⟩
  rw[←HH.out]at Z
  obtain⟨b1,d1,rfl⟩:=(Sl.of_own Z).len
  replace Z:=qAh Z (f.size)
  have q:=Nat.le_trans Y.size f.size
  replace G:=Blk.kept G kc
  replace f:=qA4.of f kc
  go_wp2
  refine l _ _ (kc.mono q) ?_
  clear l J
  try simp only[Act.put,qqB]
  clear kc q
  refine qAc _ rfl (fun J l=>?_)
  refine qqP (by rfl) ?_
  go_wp2_with fail
  refine(qAZ _ data (by rw[←HD.out];omega) _ (by rw[←HD.out];exact sd.kept ((kS.of f)))).mono ?_
  rintro e y3 ⟨u,rfl,o2,kc⟩
  rw[←HD.out]at o2
  obtain⟨b2,d2,rfl⟩:=(Sl.of_own o2).len
  replace o2:=qAh o2 (f.size)
  have q:=Nat.le_trans Y.size f.size
  replace G:=Blk.kept G kc
  replace Z:=qA5 Z kc
  replace f:=qA4.of f kc
  go_wp2
  refine l _ _ (kc.mono q) ?_
  clear l J
  try simp only[Act.put,qqB]
  clear kc q
  refine qA2 _ rfl (fun J l=>?_)
  refine qqP (by rfl) ?_;apply Exists.intro;refine⟨fun w' V=>?_,l _ ?_⟩
  · go_simp;first|done|rfl
  clear l J;simp only[Act.put,qqB]
 all_goals
  refine qAc _ rfl (fun J l=>?_)
  refine qqP (by rfl) ?_
  have f0:=G.free 0
  have e0:=G.cell 0
  have f1:=G.free 1
  have e1:=G.cell 1
  have f2:=G.free 2
  have e2:=G.cell 2
  have f3:=G.free 3
  have e3:=G.cell 3
  have f4:=G.free 4
  have e4:=G.cell 4
  have f5:=G.free 5
  have e5:=G.cell 5
  have f6:=G.free 6
  have e6:=G.cell 6
  have f7:=G.free 7
  have e7:=G.cell 7
  have f8:=G.free 8
  have e8:=G.cell 8
  have f9:=G.free 9
  have e9:=G.cell 9
  have a8:Below w2.heap.size y3 ((((((((((y3.setCell ⟨j,0,none⟩ (U key.1)).setCell ⟨j,1,none⟩ (U key.2)).setCell ⟨j,2,none⟩ (W n.epoch)).setCell ⟨j,3,none⟩ (W n.slot)).setCell ⟨j,4,none⟩ (U n.version)).setCell ⟨j,5,none⟩ (.slice b1 H d1)).setCell ⟨j,6,none⟩ (.slice b2 D d2)).setCell ⟨j,7,none⟩ (.slice (some ⟨g,0,none⟩) D (C*8))).setCell ⟨j,8,none⟩ (U 18446744073709551615#64)).setCell ⟨j,9,none⟩ (U no)):=((((((((((Below.refl _ _).setCell (p:=⟨j,0,none⟩) I _).setCell (p:=⟨j,1,none⟩) I _).setCell (p:=⟨j,2,none⟩) I _).setCell (p:=⟨j,3,none⟩) I _).setCell (p:=⟨j,4,none⟩) I _).setCell (p:=⟨j,5,none⟩) I _).setCell (p:=⟨j,6,none⟩) I _).setCell (p:=⟨j,7,none⟩) I _).setCell (p:=⟨j,8,none⟩) I _).setCell (p:=⟨j,9,none⟩) I _
  have c4:Chg [j] y3 ((((((((((y3.setCell ⟨j,0,none⟩ (U key.1)).setCell ⟨j,1,none⟩ (U key.2)).setCell ⟨j,2,none⟩ (W n.epoch)).setCell ⟨j,3,none⟩ (W n.slot)).setCell ⟨j,4,none⟩ (U n.version)).setCell ⟨j,5,none⟩ (.slice b1 H d1)).setCell ⟨j,6,none⟩ (.slice b2 D d2)).setCell ⟨j,7,none⟩ (.slice (some ⟨g,0,none⟩) D (C*8))).setCell ⟨j,8,none⟩ (U 18446744073709551615#64)).setCell ⟨j,9,none⟩ (U no)):=((((((((((Chg.refl _ _).set qsm 0 _).set qsm 1 _).set qsm 2 _).set qsm 3 _).set qsm 4 _).set qsm 5 _).set qsm 6 _).set qsm 7 _).set qsm 8 _).set qsm 9 _
  have bY:=((((((((((G.set 0 (U key.1)).set 1 (U key.2)).set 2 (W n.epoch)).set 3 (W n.slot)).set 4 (U n.version)).set 5 (.slice b1 H d1)).set 6 (.slice b2 D d2)).set 7 (.slice (some ⟨g,0,none⟩) D (C*8))).set 8 (U 18446744073709551615#64)).set 9 (U no))
  simp only[qqA,qq0,qq1]at bY
  have b5:qA4 w2 ((((((((((y3.setCell ⟨j,0,none⟩ (U key.1)).setCell ⟨j,1,none⟩ (U key.2)).setCell ⟨j,2,none⟩ (W n.epoch)).setCell ⟨j,3,none⟩ (W n.slot)).setCell ⟨j,4,none⟩ (U n.version)).setCell ⟨j,5,none⟩ (.slice b1 H d1)).setCell ⟨j,6,none⟩ (.slice b2 D d2)).setCell ⟨j,7,none⟩ (.slice (some ⟨g,0,none⟩) D (C*8))).setCell ⟨j,8,none⟩ (U 18446744073709551615#64)).setCell ⟨j,9,none⟩ (U no)):=Below.trans (qA4.of Y f) a8
  replace Z:=qAu Z c4 G (by decide)
  replace o2:=qAu o2 c4 G (by decide)
  go_wp2
  refine l _ _ (a8) ?_
  clear l J
  try simp only[Act.put,qqB]
  clear c4 a8 f G f0 e0 f1 e1 f2 e2 f3 e3 f4 e4 f5 e5 f6 e6 f7 e7 f8 e8 f9 e9
  generalize ((((((((((y3.setCell ⟨j,0,none⟩ (U key.1)).setCell ⟨j,1,none⟩ (U key.2)).setCell ⟨j,2,none⟩ (W n.epoch)).setCell ⟨j,3,none⟩ (W n.slot)).setCell ⟨j,4,none⟩ (U n.version)).setCell ⟨j,5,none⟩ (.slice b1 H d1)).setCell ⟨j,6,none⟩ (.slice b2 D d2)).setCell ⟨j,7,none⟩ (.slice (some ⟨g,0,none⟩) D (C*8))).setCell ⟨j,8,none⟩ (U 18446744073709551615#64)).setCell ⟨j,9,none⟩ (U no))=y at *
  refine qCZ ?_
  have kY:=c9.of b5
  have a3:w.ownsRow 0 184 10 (Value.slice av L cv) L (qBY iss rs):=by rw[HL.out];exact hI.row
  have i7:O∉(Value.slice av L cv).ownBlock.toList:=qBX a3 bO (by decide)
  have d9:=bO.kept kY
  have k9:w.heap.size≤w2.heap.size:=c9.size
  have b6:j∉(Value.slice av L cv).ownBlock.toList:=fun hm=>by
   have:=qAp a3 (qAt.1 hm)
   omega
  go_wp2_with fail
  refine qAb ((Value.slice av L cv).ownBlock.toList) [(0,0),(1,0),(2,0),(3,0),(4,0),(5,0),(6,1),(7,1),(8,2),(9,2),(10,2)] (by kernel_rfl) (by kernel_rfl) ?_
  intro z1 a7
  repeat
   refine qA0 _ rfl (fun K hK=>?_)
   first
    | (refine qqP (by rfl) ?_;apply Exists.intro;refine⟨fun w' V=>?_,hK _ ?_⟩;(have c:=V.blk (d9.kept a7) i7;have c0:=c.cell 0;clear c;have d:=V.blk (bY.kept a7) b6;have e0:=d.cell 0;have e1:=d.cell 1;have e2:=d.cell 2;have e3:=d.cell 3;have e4:=d.cell 4;have e5:=d.cell 5;have e6:=d.cell 6;have e7:=d.cell 7;have e8:=d.cell 8;have e9:=d.cell 9;clear d;go_simp;first|done|rfl))
    | refine qqN (by rfl) (hK _ ?_)
   clear hK K;simp only[Act.put,qqB]
  refine qqH _ rfl (by rfl) (fun K hK=>?_)
  go_wp2
  refine hK _ _ (Chg.of_kept (qal _)) ?_
  clear hK K
  try simp only[Act.put,qqB]
  refine qqH _ rfl (by rfl) (fun K hK=>?_)
  have j7:=(qA5 a3 (kY.of a7)).alloc (.cells #[U key.1,U key.2,W n.epoch,W n.slot,U n.version,.slice b1 H d1,.slice b2 D d2,.slice (some ⟨g,0,none⟩) D (C*8),U 18446744073709551615#64,U no] 184)
  have k8:=a7.size
  refine qBE qSe (by rfl) (by rfl) (by rfl) j7 (Sl.lit _ #[U key.1,U key.2,W n.epoch,W n.slot,U n.version,.slice b1 H d1,.slice b2 D d2,.slice (some ⟨g,0,none⟩) D (C*8),U 18446744073709551615#64,U no] 184 1 (by decide)) (by rfl) (by intro u hu;simp at hu;rcases hu with rfl|rfl|rfl|rfl|rfl|rfl|rfl|rfl|rfl|rfl<;>rfl) (by show L+1≤maxLen;unfold maxLen;omega) (by show(L+1)*120≤140737488355328;omega) (Nat.zero_le _) ?_
  intro vN z2 a2 d7 k0 _
  obtain⟨gN,cN,j8⟩:=qAy a2 (by omega)
  subst j8
  have c5:=qAp a2 (g:=gN) rfl
  have h9:qA4 y (z1.alloc (.cells #[U key.1,U key.2,W n.epoch,W n.slot,U n.version,.slice b1 H d1,.slice b2 D d2,.slice (some ⟨g,0,none⟩) D (C*8),U 18446744073709551615#64,U no] 184)):=a7.of (qal _)
  have l3:y.heap.size≤(z1.alloc (.cells #[U key.1,U key.2,W n.epoch,W n.slot,U n.version,.slice b1 H d1,.slice b2 D d2,.slice (some ⟨g,0,none⟩) D (C*8),U 18446744073709551615#64,U no] 184)).heap.size:=h9.size
  have d0:Chg (Value.slice av L cv).ownBlock.toList y z2:=(Chg.of_kept h9).trans d7.chgL
  have k5:=d7.size
  generalize (z1.alloc (.cells #[U key.1,U key.2,W n.epoch,W n.slot,U n.version,.slice b1 H d1,.slice b2 D d2,.slice (some ⟨g,0,none⟩) D (C*8),U 18446744073709551615#64,U no] 184))=zA at *
  refine hK _ _ (d7.chgL) ?_
  clear hK K
  try simp only[Act.put,qqB]
  refine qAg _ rfl (fun K hK=>?_)
  refine qqP (by rfl) ?_
  go_wp2
  refine qAg _ rfl (fun K hK=>?_)
  refine qqP (by rfl) ?_
  go_wp2
  refine qAg _ rfl (fun K hK=>?_)
  refine qqP (by rfl) ?_
  have b4:=d0.blk d9 i7
  have f0:=b4.free 0
  have x0:=b4.cell 0
  go_wp2
  refine qA6 ?_
  have d6:Chg [O] z2 (z2.setCell ⟨O,0,none⟩ (.slice (some ⟨gN,0,none⟩) (L+1) cN)):=(Chg.refl _ _).set qsm 0 _
  have h8:=b4.set 0 (.slice (some ⟨gN,0,none⟩) (L+1) cN)
  simp only[List.setIfInBounds_toArray,List.set_cons_zero]at h8
  replace a2:=qAu a2 d6 b4 (by decide)
  have k7:z2.heap.size≤(z2.setCell ⟨O,0,none⟩ (.slice (some ⟨gN,0,none⟩) (L+1) cN)).heap.size:=by simp
  have a0:=d6.blk (d0.blk bY b6) (by rw[List.mem_singleton];intro e;have:=bO.lt;omega)
  clear f0 x0
  generalize (z2.setCell ⟨O,0,none⟩ (.slice (some ⟨gN,0,none⟩) (L+1) cN))=z3 at *
  have c3:Chg (O::(Value.slice av L cv).ownBlock.toList) y z3:=(d0.mono (fun b hb=>List.mem_cons_of_mem _ hb)).trans (d6.mono (by simp))
  have l2:w.heap.size≤y.heap.size:=kY.size
  have fresh:∀k,w.heap.size≤k→k∉O::(Value.slice av L cv).ownBlock.toList:=fun k hk hm=>by
   rcases List.mem_cons.1 hm with rfl|h
   · have:=bO.lt;omega
   · have:=qAp a3 (qAt.1 h);omega
  have c6:∀a n c,(Value.slice b1 H d1)= .slice (some a) n c→0<n→w.heap.size+1+1<a.block∧a.block<y.heap.size:=fun a n c e hn=>by
   cases e
   obtain⟨gz,cz,e1,_⟩:=qFT Z hn
   cases e1
   have h1:=qAN Z (g:=gz) rfl
   have h2:=qAp Z (g:=gz) rfl
   have h3:=Y.size
   have h4:=a5.size
   have h5:=bZ.lt
   exact⟨by show w.heap.size+1+1<gz;omega,h2⟩
  have d5:∀a n c,(Value.slice b2 D d2)= .slice (some a) n c→0<n→w.heap.size+1+1<a.block∧a.block<y.heap.size:=fun a n c e hn=>by
   cases e
   obtain⟨gz,cz,e1,_⟩:=qFT o2 hn
   cases e1
   have h1:=qAN o2 (g:=gz) rfl
   have h2:=qAp o2 (g:=gz) rfl
   have h3:=Y.size
   have h4:=a5.size
   have h5:=bZ.lt
   exact⟨by show w.heap.size+1+1<gz;omega,h2⟩
  have h6:Sl w2 (.slice (some ⟨g,0,none⟩) D (C*8)) D (qA1 (qE2 (L+1) D)):=by
   have h0:=Sl.first so (n:=D) (by rw[a9.out];exact j2)
   rw[List.length_take,a9.out,Nat.min_eq_left j2]at h0
   have e:qE2 (L+1) D=(Lib.repeatL (qAI no 8) C).take D:=by unfold qE2;rw[HN.out,HC.out]
   rw[e]
   exact h0
  have d4:∀a n c,(Value.slice (some ⟨g,0,none⟩) D (C*8))= .slice (some a) n c→0<n→w.heap.size+1+1<a.block∧a.block<y.heap.size:=fun a n c e hn=>by
   cases e
   have h1:=Sl.low h6 _ _ rfl (by rw[qA7,qBI];exact hn)
   have h2:=k1.size
   have h3:=b9.size
   have h4:=b5.size
   have h5:=bZ.lt
   exact⟨by show w.heap.size+1+1<g;omega,by show g<y.heap.size;simp only at h1;omega⟩
  have tr:∀(u:Value) (bs:List UInt8) (N:Nat),N=bs.length→Sl y u N (qA1 bs)→(∀a n c,u= .slice (some a) n c→0<n→w.heap.size+1+1<a.block∧a.block<y.heap.size)→Sl z3 u bs.length (qA1 bs):=fun u bs N hN hs hl=>by
   subst hN
   exact Chg.sl hs c3 fun a c e hp=>fresh _ (by have:=(hl a _ c e (by rw[qA7]at hp;exact hp)).1;omega)
  have t1:=tr _ head H HH.out (Sl.of_own Z) c6
  have t2:=tr _ data D HD.out (Sl.of_own o2) d5
  have t3:=tr _ (qE2 (L+1) D) D (qBI _ _).symm (h6.kept b5) d4
  have g0:=a0.cell 0
  have g1:=a0.cell 1
  have g2:=a0.cell 2
  have g3:=a0.cell 3
  have g4:=a0.cell 4
  have g5:=a0.cell 5
  have g6:=a0.cell 6
  have g7:=a0.cell 7
  have g8:=a0.cell 8
  have g9:=a0.cell 9
  have j9:head.length≤4000:=by rw[←HH.out];exact hlh
  have j0:data.length≤4000:=by rw[←HD.out];exact hld
  have TT:=qPm ⟨key,n,head,data,qE2 (L+1) D,(18446744073709551615#64,no)⟩ (.slice b1 H d1) (.slice b2 D d2) (.slice (some ⟨g,0,none⟩) D (C*8)) z3 j9 j0 (by show(qE2 (L+1) D).length≤4000;rw[qBI];exact hld) t1 t2 t3
  unfold qFi at TT
  simp only[qBI]at TT
  have k3:=c3.blk ((bZ.kept a5).kept b5) (fresh _ (by omega))
  go_wp2_with fail
  refine TT.mono ?_
  rintro e z4 ⟨u1,u2,u3,rfl,i9,k4⟩
  obtain⟨b3,d3,rfl⟩:=(Sl.of_own i9).len
  have a1:=k3.kept k4
  have f0:=a1.free 0
  have f1:=a1.free 1
  have f2:=a1.free 2
  have x0:=a1.cell 0
  have x1:=a1.cell 1
  have x2:=a1.cell 2
  have l4:=qNA (U key.1) (U key.2) (W n.epoch) (W n.slot) (U n.version) u1 u2 (.slice b3 D d3) (U 18446744073709551615#64) (U no) z4
  go_wp2_with fail
  have bR:=((a1.set 0 (.slice b3 D d3)).set 1 (U 18446744073709551615#64)).set 2 (U no)
  simp only[qqA,qq0,qq1]at bR
  have a6:Chg [w.heap.size+1+1] z4 (((z4.setCell ⟨w.heap.size+1+1,0,none⟩ (.slice b3 D d3)).setCell ⟨w.heap.size+1+1,1,none⟩ (U 18446744073709551615#64)).setCell ⟨w.heap.size+1+1,2,none⟩ (U no)):=(((Chg.refl _ _).set qsm 0 _).set qsm 1 _).set qsm 2 _
  clear f0 f1 f2 x0 x1 x2
  generalize (((z4.setCell ⟨w.heap.size+1+1,0,none⟩ (.slice b3 D d3)).setCell ⟨w.heap.size+1+1,1,none⟩ (U 18446744073709551615#64)).setCell ⟨w.heap.size+1+1,2,none⟩ (U no))=z5 at *
  have r0:=bR.cell 0
  have r1:=bR.cell 1
  have r2:=bR.cell 2
  have b8:Chg (O::(Value.slice av L cv).ownBlock.toList) w z5:=qDt (((Chg.of_kept kY).trans c3).trans (Chg.of_kept k4)) a6 (by omega)
  have l1:∀b∈ [w.heap.size+1+1],b∉O::(Value.slice av L cv).ownBlock.toList:=fun b hb=>fresh b (by rw[List.mem_singleton]at hb;omega)
  have d8:=qAu (qA5 a2 k4) a6 a1 (by decide)
  have j6:=a6.blk (h8.kept k4) (by rw[List.mem_singleton];have:=bO.lt;omega)
  have b7:=qAu i9 a6 a1 (by decide)
  have l6:=k4.size
  have k6:=a6.size
  have c8:∀(u:Value) (bs:List UInt8) (N:Nat),N=bs.length→Sl z3 u bs.length (qA1 bs)→(∀a n c,u= .slice (some a) n c→0<n→a.block≠w.heap.size+1+1)→Sl z5 u bs.length (qA1 bs):=fun u bs N hN hs hl=>Chg.sl (hs.kept k4) a6 fun a c e hp hm=>hl a _ c e (by rw[qA7]at hp;exact hp) (List.mem_singleton.1 hm)
  have p1:=c8 _ head _ rfl t1 (fun a n c e hn h=>by have:=(c6 a n c e hn).1;omega)
  have p2:=c8 _ data _ rfl t2 (fun a n c e hn h=>by have:=(d5 a n c e hn).1;omega)
  have p3:=c8 _ (qE2 (L+1) D) _ rfl t3 (fun a n c e hn h=>by have:=(d4 a n c e hn).1;omega)
  have HP:=OrC.push (zA:=zA) (z2:=z2) (wF:=z5) (v':=.slice (some ⟨gN,0,none⟩) (L+1) cN) ⟨key,n,head,data,qE2 (L+1) D,(18446744073709551615#64,no)⟩ (.slice b1 H d1,.slice b2 D d2,.slice (some ⟨g,0,none⟩) D (C*8)) bO (by rw[HL.out];exact hI) hS cO cm (by rw[HL.out];exact cI) ht (by omega) k5 (by omega) (by rw[←HL.out];exact d8) k0 (fun g' hg=>by cases hg;exact c5) j6 b8 p1 p2 p3 (fun s hs a n c e hn=>by
   simp only[List.mem_cons,List.not_mem_nil,or_false]at hs
   rcases hs with rfl|rfl|rfl
   · have:=c6 a n c e hn;omega
   · have:=d5 a n c e hn;omega
   · have:=d4 a n c e hn;omega)
  refine bodyPost_ret (v:=.tuple #[.agg #[.slice b3 D d3,U 18446744073709551615#64,U no],.bool true]) (by simp[results,results64,go_sem,r0,r1,r2];done) rfl ⟨_,_,by rw[←HL.out,←HN.out],?_,fun g' hg=>?_,?_,HP.2,fun b cs t hb n1 n2=>b8.blk hb fun hm=>?_⟩
  · rw[←HL.out]
    exact qAh b7 (by omega)
  · have h1:=qAN b7 hg
    unfold qAi
    rw[if_neg (by omega)]
    exact ht g' (by omega)
  · have:=HP.1
    unfold qEN
    rw[←HL.out,←HN.out,←HD.out]
    exact this
  · rcases List.mem_cons.1 hm with rfl|hm
    · exact qAE hb bO (fun e=>n1 e.symm) rfl
    · exact qBX a3 hb (fun e=>n2 e.symm) hm

theorem qPw (a b:List UInt8)(k:Nat)(ha:k<a.length)(hb:k<b.length)(h:k<(qFM a b).length):(qFM a b)[k]=a[k] ^^^ b[k]:=by simp[qFM]
theorem qNB (va vb:Value)(a b:List UInt8)(ha:a.length≤4000)(G:b.length≤4000)(w:World)(sa:Sl w va a.length (qA1 a))(sb:Sl w vb b.length (qA1 b)) :
 Calls prog 88 #[va,vb] w fun e w'=>∃r,e= .returned r∧w'.ownsRow w.heap.size 5 1 r (qFM a b).length (qA1 (qFM a b))∧qA4 w w':=by
 obtain⟨pa,ca,a1⟩:=sa.len
 obtain⟨pb,cb,a0⟩:=sb.len
 obtain⟨n,hn⟩:∃n,n=(qFM a b).length:=⟨_,rfl⟩
 have q:n≤a.length:=by rw[hn,qD4];omega
 have hnb:n≤b.length:=by rw[hn,qD4];omega
 have a3:=fun wx=>qBU (P:=prog) wx qAx .i64 .i64 n (by omega)
 have N:(if b.length<a.length then(b.length:Int) else(a.length:Int))=(n:Int):=by rw[hn,qD4];split<;>omega
 subst a1 a0
 rw[←hn]
 have V:=qh hn
 have HA:=qh q
 have HB:=qh hnb
 have n0:(n:Int)≤4000:=by omega
 clear hn q hnb
 go_enter func88,ntmps88
 go_wp2_with fail
 clear a3 N
 go_loopw [15,6] (fun i _ wr=>∃k:Nat,k≤n∧i= .int .i64 k∧Blk wr w.heap.size (qA1 (qJP (qFM a b) 0 k)).toArray 5∧Below w.heap.size w wr)
  (fun i _ _=>n - (intOf i).toNat)
 case atStart=>exact⟨0,by omega,rfl,by rw[qIA,←V.out];exact Blk.new _ _ _,qal _⟩
 case round =>
  obtain⟨k,hk,rfl,l,G⟩:=hrel
  by_cases a2:k<n
  · have J:k<(qFM a b).length:=by rw[←V.out];exact a2
    have I:k<a.length:=by have:=HA.out;omega
    have F:k<b.length:=by have:=HB.out;omega
    have j:=qKV (qFM a b) 0 k J
    rw[qPw a b k I F]at j
    have c:=l.cell k
    rw[show(qA1 (qJP (qFM a b) 0 k)).toArray[k]? = some (V8 0) by simp[qA1,qKW _ _ _ J]]at c
    have f:=l.free k
    obtain⟨ba,oa,a4,ea,_,_,la,xa⟩:=(sa.kept G).byte (by omega)
    obtain⟨bb,ob,a5,eb,_,_,lb,Z⟩:=(sb.kept G).byte (by omega)
    cases ea
    cases eb
    have ca:=xa k I
    have cb:=Z k F
    have i2:(k:Int)<(n:Int):=by omega
    have i3:(0:Int)≤(k:Int):=by omega
    have i4:(k:Int)<(a.length:Int):=by omega
    have i5:(k:Int)<(b.length:Int):=by omega
    have HS:=qh j
    have XA:=qh xa
    have XB:=qh Z
    clear j xa Z
    go_wp2
    refine qA3 [(0,0),(1,0),(2,0),(3,0),(4,0),(5,0),(6,0),(7,0),(8,0),(9,0),(10,0),(11,0),(12,2)] (by kernel_rfl) (by kernel_rfl) ?_
    intro w1 h
    repeat
     refine qA0 _ rfl (fun K Y=>?_)
     first
      | (refine qqP (by rfl) ?_;apply Exists.intro;refine⟨fun w' O=>?_,Y _ ?_⟩;(have a7:=O.at (h.at ca);have a6:=O.at (h.at cb);go_simp;first|done|rfl))
      | refine qqN (by rfl) (Y _ ?_)
     clear Y K;simp only[Act.put,qqB]
    refine qAg _ rfl (fun K Y=>?_)
    refine qqP (by rfl) ?_
    have c1:=h.at c
    have f1:=(l.kept h).free k
    go_wp2
    refine qA6 ?_
    go_wp2
    refine⟨⟨k+1,by omega,by go_num,?_,(qA4.of G h).setCell qle _⟩,by simp[intOf];omega⟩
    have:=(l.kept h).set k (V8 (a[k] ^^^ b[k]))
    rw[qF7,HS.out]at this
    exact this
  · have:k=n:=by omega
    subst this
    have hf:qJP (qFM a b) 0 k=qFM a b:=by have:=qKU (qFM a b) 0;rwa [←V.out]at this
    rw[hf]at l
    clear hf
    go_wp2
    go_ret
    exact⟨_,rfl,qCB k (by unfold maxLen;omega) 5 _ V.out.symm l qle,G⟩
theorem qKp (s1 s2:BitVec 64)(vh vb:Value)(head bytes:List UInt8)(hl:head.length≤4000)(bl:bytes.length≤4000)(w:World)(hh:Sl w vh head.length (qA1 head))(hb:Sl w vb bytes.length (qA1 bytes)) :
 Calls prog 90 #[.agg #[U s1,U s2],vh,vb] w fun e w'=>e= .returned (Pr (qMM (s1,s2) head bytes))∧qA4 w w':=by
 obtain⟨ha,hc,hv⟩:=hh.len
 subst hv
 obtain⟨ba,bc,hv⟩:=hb.len
 subst hv
 have h:qA4 w ((w.alloc (.cells #[U s1,U s2] 115)).alloc (.cells #[U 0#64,U 0#64] 115)):=(qal _).alloc (by simp) _
 have F:Blk ((w.alloc (.cells #[U s1,U s2] 115)).alloc (.cells #[U 0#64,U 0#64] 115)) w.heap.size #[U s1,U s2] 115:=(Blk.new _ _ _).alloc _
 have f:Blk ((w.alloc (.cells #[U s1,U s2] 115)).alloc (.cells #[U 0#64,U 0#64] 115)) (w.heap.size+1) #[U 0#64,U 0#64] 115:=by simpa using Blk.new (w.alloc (.cells #[U s1,U s2] 115)) #[U 0#64,U 0#64] 115
 have b4:=hh
 have b3:=hb
 obtain⟨H,hH⟩:∃H,H=head.length:=⟨_,rfl⟩
 obtain⟨B,hB⟩:∃B,B=bytes.length:=⟨_,rfl⟩
 rw[←hH]at hl hh
 rw[←hB]at bl hb
 rw[←hH,←hB]
 have i0:(H:Int)≤4000:=by omega
 have i1:(B:Int)≤4000:=by omega
 have HH:=qh hH
 have HB:=qh hB
 have b8:Sl w (.slice ha H hc) head.length (qA1 head):=by rw[hH];exact b4
 have b7:Sl w (.slice ba B bc) bytes.length (qA1 bytes):=by rw[hB];exact b3
 have b9:nP head.length≤260:=by rw[←hH];unfold nP;omega
 have c3:nP bytes.length≤260:=by rw[←hB];unfold nP;omega
 clear hH hB hh hb b4 b3
 have q0:=F.cell 0
 have q1:=F.cell 1
 go_enter func90,ntmps90
 go_wp2_with fail
 generalize ((w.alloc (.cells #[U s1,U s2] 115)).alloc (.cells #[U 0#64,U 0#64] 115))=w0 at *
 clear q0 q1
 refine(qIL _ head (by rw[←HH.out];omega) _ (b8.kept h)).mono ?_
 rintro e w6 ⟨r1,rfl,o1,J⟩
 go_wp2_with fail
 refine(qIL _ bytes (by rw[←HB.out];omega) _ (b7.kept (h.of J))).mono ?_
 rintro e w7 ⟨r2,rfl,o2,G⟩
 have a0:=qA5 o1 G
 have s2:=Sl.of_own o2
 have V:w0.heap.size≤w7.heap.size:=Nat.le_trans J.size G.size
 go_wp2_with (at_builtin;refine qAw qK3 rfl (by rfl) (by rfl) (by rfl) a0 s2 (by rw[qEt,qBN]) (qIz _) (by unfold maxLen;omega) (by omega) V ?_;intro v8 w8 o8 a2 a7;refine hold ?_)
 have a3:qA4 w0 w8:=qAF (J.of G) a0 a2 V
 rw[←qD0]at o8
 clear a2 a7 a0 o1 o2 s2 J G V
 unfold qSF
 have N:qA4 w8 (w8.alloc (.cells #[.int .u64 (H:Int),.int .u64 (B:Int)] 115)):=qal _
 have o9:=qA5 o8 N
 have a4:=Sl.lit w8 #[.int .u64 (H:Int),.int .u64 (B:Int)] 115 1 (by decide)
 have Z:=qA4.of a3 N
 have O:=Z.size
 clear a3 N o8
 go_wp2_with (at_builtin;refine qAw qK3 rfl (by rfl) (by rfl) (by rfl) o9 a4 (by rfl) (by intro u hu;simp at hu;rcases hu with rfl|rfl<;>rfl) (by unfold maxLen;omega) (by omega) O ?_;intro va wa oa a8 a9;refine hold ?_)
 have I:qA4 w0 wa:=qAF Z o9 a8 O
 have sa:Sl wa va (qP6 head bytes).length (qAA (qP6 head bytes)):=by
  have e1:(qP6 head bytes).length=nP head.length+nP bytes.length+1:=by simp[qP6,qBN];omega
  have e2:qAA (qCq head++qCq bytes)++#[.int .u64 (H:Int),.int .u64 (B:Int)].toList=qAA (qP6 head bytes):=by
   unfold qP6
   rw[qD0 (qCq head++qCq bytes),qH6,←HH.out,←HB.out,←qHS H (by omega),←qHS B (by omega)]
  rw[e1,←e2]
  exact Sl.of_own oa
 have b5:(qP6 head bytes).length≤1000:=by simp[qP6,qBN];omega
 replace F:=F.kept I
 replace f:=f.kept I
 replace h:=qA4.of h I
 clear a8 a9 o9 a4 Z O oa I
 unfold qSF
 have q0:=F.cell 0
 have q1:=F.cell 1
 go_wp2_with fail
 refine(qFb _ _ _ _ _).mono ?_
 rintro e w3 ⟨rfl,a5⟩
 obtain⟨E,hE⟩:∃E,E=qLK (s1,s2) (0#64,1#64):=⟨_,rfl⟩
 rw[←hE]
 have HE:=qh hE
 clear hE
 have hT:=Blk.new w3 #[U E.1,U E.2] 115
 have q:qA4 wa (w3.alloc (.cells #[U E.1,U E.2] 115)):=qA4.of a5 (qal _)
 replace F:=F.kept q
 replace f:=f.kept q
 replace h:=qA4.of h q
 replace sa:=sa.kept q
 clear a5 q q0 q1
 go_wp2_with fail
 generalize w3.alloc (.cells #[U E.1,U E.2] 115)=w5 at *
 refine qA3 [(0,0),(1,0),(3,0),(4,0),(2,1),(5,1),(6,1),(7,2)] (by kernel_rfl) (by kernel_rfl) ?_
 intro wb l
 replace F:=F.kept l
 replace hT:=hT.kept l
 replace f:=f.kept l
 repeat
  refine qA0 _ rfl (fun K j=>?_)
  first
   | (refine qqP (by rfl) ?_;apply Exists.intro;refine⟨fun w' a6=>?_,j _ ?_⟩;(have c:=F.kept a6;have c0:=c.cell 0;have c1:=c.cell 1;have d:=hT.kept a6;have d0:=d.cell 0;have d1:=d.cell 1;clear c d;go_simp;first|done|rfl))
   | refine qqN (by rfl) (j _ ?_)
  clear j K;simp only[Act.put,qqB]
 refine qqH _ rfl (by rfl) (fun K j=>?_)
 go_wp2_with fail
 refine(qQH _ _ _ _ b5 (sa.kept l)).mono ?_
 rintro e wc ⟨rfl,Y⟩
 replace f:=f.kept Y
 go_wp2
 refine j _ _ (Y) ?_
 clear j K
 try simp only[Act.put,qqB]
 refine qqH _ rfl (by rfl) (fun K j=>?_)
 go_wp2_with fail
 refine(qFb _ _ _ _ _).mono ?_
 rintro e wd ⟨rfl,hkd⟩
 replace f:=f.kept hkd
 go_wp2
 refine j _ _ (hkd) ?_
 clear j K
 try simp only[Act.put,qqB]
 refine qqH _ rfl (by rfl) (fun K j=>?_)
 go_wp2_with fail
 refine(qJW _ _ _ _ _).mono ?_
 rintro e we ⟨rfl,a1⟩
 replace f:=f.kept a1
 go_wp2
 refine j _ _ (a1) ?_
 clear j K
 try simp only[Act.put,qqB]
 refine qAg _ rfl (fun K j=>?_)
 refine qqP (by rfl) ?_
 have r0:=f.cell 0
 have r1:=f.cell 1
 have c2:=f.free 0
 have c4:=f.free 1
 go_wp2
 refine qA6 ?_
 have b6:=(((h.of l).of Y).of hkd).of a1
 go_wp2
 refine bodyPost_ret (v:=Pr (qMM (s1,s2) head bytes)) (by simp[results,results90,go_sem,r0,r1,qMM,←HE.out];done) rfl ⟨rfl,?_⟩
 exact(b6.setCell (by show _≤w.heap.size+1;omega) _).setCell (by show _≤w.heap.size+1;omega) _
end Go.Proofs.YtdlgihbpiakebaaGreat
