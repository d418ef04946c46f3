import Derived.Test.YtdlgihbpiakebaaGreatMk23
import Derived.Test.YtdlgihbpiakebaaGreatMk25
set_option maxRecDepth 100000
set_option maxHeartbeats 4000000
namespace Go.Proofs.YtdlgihbpiakebaaGreat
open Go Go.RowKit Tryz
structure qBt (t:TypeId)(w:World)(K b g:Nat)(seed:BitVec 64)(l:List (BitVec 32))(cap:Nat):Prop where
 blk:Blk w K #[.pointer (some ⟨b,0,none⟩),U seed,.slice (some ⟨g,0,none⟩) l.length cap] t
 row:w.ownsRow 0 94 1 (.slice (some ⟨g,0,none⟩) l.length cap) l.length (qBd l)
theorem qBt.blkg {t:TypeId}{w:World}{K b g:Nat}{seed:BitVec 64}{l:List (BitVec 32)}{cap:Nat}(h:qBt t w K b g seed l cap):∃cur,Blk w g cur 94:=by
 rcases h.row.2 with ⟨h0,_⟩|⟨_,_,cur,e,_,hb,_⟩
 · cases h0
 · cases e;exact⟨cur,hb⟩
theorem qAE {w:World}{a b:Nat}{cs ds:Array Value}{t u:TypeId}(h:Blk w a cs t)(k:Blk w b ds u)(hne:t≠u):a≠b:=by
 intro e;subst e
 unfold Blk at h k
 rw[h]at k
 cases k;exact hne rfl
theorem qK9 {w w':World}{bs:List Nat}{B g n cap:Nat}{e:TypeId}{xs:List Value}(h:w.ownsRow B e 1 (.slice (some ⟨g,0,none⟩) n cap) n xs)(hc:Chg bs w w')(hn:g∉bs):w'.ownsRow B e 1 (.slice (some ⟨g,0,none⟩) n cap) n xs:=by
 refine⟨h.1,?_⟩
 rcases h.2 with ⟨h0,_⟩|⟨g',cap',cur,e',hB,hb,h1,h2,h3,h4⟩
 · cases h0
 · cases e'
   exact .inr ⟨g,cap,cur,rfl,hB,hc.blk hb hn,h1,h2,h3,h4⟩
theorem qFT {w:World}{B:Nat}{e:TypeId}{v:Value}{n:Nat}{xs:List Value}(h:w.ownsRow B e 1 v n xs)(hn:0<n):∃g cap,v= .slice (some ⟨g,0,none⟩) n cap∧B≤g∧g<w.heap.size:=by
 rcases h.2 with ⟨_,h0⟩|⟨g',cap',cur,e',hB,hb,r⟩
 · omega
 · exact⟨g',cap',e',hB,(Array.getElem?_eq_some_iff.1 hb).1⟩
theorem qBt.chg {t:TypeId}{w w':World}{K b g:Nat}{seed:BitVec 64}{l:List (BitVec 32)}{cap:Nat}(h:qBt t w K b g seed l cap){bs:List Nat}(hc:Chg bs w w')(h1:K∉bs)(h2:g∉bs):qBt t w' K b g seed l cap:=
 ⟨hc.blk h.blk h1,qK9 h.row hc h2⟩
theorem qBt.kept {t:TypeId}{w w':World}{K b g:Nat}{seed:BitVec 64}{l:List (BitVec 32)}{cap:Nat}(h:qBt t w K b g seed l cap)(hk:qA4 w w'):qBt t w' K b g seed l cap:=
 h.chg (bs:=[]) (Chg.of_kept hk) (by simp) (by simp)
theorem qBt.cells {t:TypeId}{w:World}{K b g:Nat}{seed:BitVec 64}{l:List (BitVec 32)}{cap:Nat}(h:qBt t w K b g seed l cap) :
 w.cell? ⟨K,0,none⟩=some (.pointer (some ⟨b,0,none⟩))∧w.cell? ⟨K,1,none⟩=some (U seed)∧w.cell? ⟨K,2,none⟩=some (.slice (some ⟨g,0,none⟩) l.length cap):=
 ⟨Blk.cell h.blk 0,Blk.cell h.blk 1,Blk.cell h.blk 2⟩
theorem qBt.get {t:TypeId}{w:World}{K b g:Nat}{seed:BitVec 64}{l:List (BitVec 32)}{cap:Nat}(h:qBt t w K b g seed l cap)(i:Nat)(y:BitVec 32)(hy:l[i]? = some y):w.cell? ⟨g,i,none⟩=some (W y):=by
 obtain⟨j,rfl⟩:=List.getElem?_eq_some_iff.1 hy
 obtain⟨b0,off,c,e,_,_,_,f⟩:=(Sl.of_own h.row).at (by rw[qBM];omega)
 cases e
 have:=f i _ (qDN l i j)
 rwa [Nat.zero_add]at this
theorem qNe (seed:BitVec 64)(e:BitVec 32)(w:World):Calls prog 170 #[U seed,W e] w fun r w'=>r= .returned (Pr (qP2 seed e))∧qA4 w w':=by
 go_enter func170,ntmps170
 go_wp2_with fail
 refine(qFb _ _ _ _ _).mono ?_
 rintro r w1 ⟨rfl,c⟩
 obtain⟨q,h⟩:∃q,q=qP2 seed e:=⟨_,rfl⟩
 rw[show qLK (seed,seed) (0#64,BitVec.setWidth 64 e)=q from h.symm]
 have j:=qh h
 clear h
 have f:=(Blk.new w #[U 0#64,U 0#64] 115).kept c
 have O:=f.cell 0
 have N:=f.cell 1
 have J:=f.free 0
 have I:=f.free 1
 have l:qA4 w w1:=qA4.of (qal _) c
 clear c
 go_wp2
 have d:=(f.set 0 (U q.1)).set 1 (U q.2)
 have F:=d.cell 0
 have G:=d.cell 1
 refine bodyPost_ret (v:=Pr q) (by simp[results,results170,go_sem,F,G];try exact⟨rfl,rfl⟩) rfl ⟨by rw[j.out],?_⟩
 exact(l.setCell qle _).setCell qle _
theorem qKa (K b g:Nat)(seed:BitVec 64)(l:List (BitVec 32))(cap:Nat)(h0:0<l.length)(hl:l.length≤100000)(w:World)(h:qBt 96 w K b g seed l cap):Calls prog 115 #[.pointer (some ⟨K,0,none⟩)] w fun r w'=>r= .returned (W (qAl l))∧qA4 w w':=by
 obtain⟨m,F⟩:∃m,l.length=m+1:=⟨l.length - 1,by omega⟩
 obtain⟨_,_,q⟩:=h.cells
 have G:=h.get m (qAl l) (by rw[←qIE l h0];congr 1;omega)
 have hcap:m<cap:=by
  rcases h.row.2 with ⟨e,_⟩|⟨_,_,_,e,_,_,hh,_⟩
  · cases e
  · cases e;omega
 rw[F]at q
 have Y:(m:Int)≤100000:=by omega
 have V:IntKind.i64.wrap (m:Int)=(m:Int):=IntWalk.i64_in _ (by omega)
 have O:(m:Int)<(m:Int)+1:=by omega
 have N:((m+1:Nat):Int) - 1=(m:Int):=by omega
 clear F h0 hl h
 go_enter func115,ntmps115
 go_wp2_with fail
 refine qA3 [(0,0),(1,0),(2,0),(3,0),(4,0),(5,0),(6,0),(7,0),(8,0),(9,0),(10,0),(11,0),(12,0)] (by kernel_rfl) (by kernel_rfl) ?_
 intro w1 c
 repeat
  refine qA0 _ rfl (fun K j=>?_)
  first
   | (refine qqP (by rfl) ?_;apply Exists.intro;refine⟨fun w' f=>?_,j _ ?_⟩;(have J:=f.at (c.at q);have I:=f.at (c.at G);go_simp;first|done|rfl))
   | refine qqN (by rfl) (j _ ?_)
  clear j K;simp only[Act.put,qqB]
 refine qA6 ?_
 go_wp2
 go_ret
 exact⟨rfl,c⟩
theorem qH8 (K b g:Nat)(seed:BitVec 64)(l:List (BitVec 32))(cap:Nat)(h0:0<l.length)(hl:l.length≤100000)(w:World)(h:qBt 96 w K b g seed l cap):Calls prog 22 #[.pointer (some ⟨K,0,none⟩)] w fun r w'=>∃v,r= .returned v∧w'.ownsRow w.heap.size 94 1 v l.length (qBd l)∧qA4 w w':=by
 obtain⟨_,_,q⟩:=h.cells
 have f:=Sl.of_own h.row
 go_enter func22,ntmps22
 go_wp2_with fail
 refine(qLV _ l h0 hl _ f).mono ?_
 rintro r w1 ⟨v,rfl,c,j⟩
 go_wp2
 go_ret
 exact⟨_,rfl,c,j⟩
def qFd (seed:BitVec 64)(l:List (BitVec 32))(e:BitVec 32):qAD:=if l.contains e then qP2 seed e else(0#64,0#64)
theorem qQO (K b g:Nat)(seed:BitVec 64)(l:List (BitVec 32))(cap:Nat)(x:BitVec 32)(h0:0<l.length)(hl:l.length≤100000)(w:World)(h:qBt 96 w K b g seed l cap):Calls prog 138 #[.pointer (some ⟨K,0,none⟩),W x] w fun r w'=>r= .returned (.tuple #[Pr (qFd seed l x),.bool (l.contains x)])∧qA4 w w':=by
 have F:qA4 w (w.alloc (.cells #[U 0#64,U 0#64] 115)):=qal _
 have V:w.heap.size<(w.alloc (.cells #[U 0#64,U 0#64] 115)).heap.size:=by simp
 have J:=Blk.new w #[U 0#64,U 0#64] 115
 go_enter func138,ntmps138
 go_wp2_with fail
 refine(qH8 _ _ _ _ l _ h0 hl _ (h.kept F)).mono ?_
 rintro r w1 ⟨v,rfl,j,I⟩
 obtain⟨g1,a0,rfl,_,_⟩:=qFT j h0
 have hs:=Sl.of_own j
 have c:=J.kept I
 have N:qA4 w w1:=qA4.of F I
 clear J I F V
 go_wp2_with fail
 refine(qIM _ _ l x hl _ hs).mono ?_
 rintro r w2 ⟨rfl,rfl⟩
 have c0:=c.cell 0
 have c1:=c.cell 1
 have f0:=c.free 0
 have f1:=c.free 1
 cases hc:l.contains x
 · have Y:=qh hc
   clear hc
   go_wp2
   have d:=(c.set 0 (U 0#64)).set 1 (U 0#64)
   have Z:=d.cell 0
   have d1:=d.cell 1
   refine bodyPost_ret (v:=.tuple #[Pr (0#64,0#64),.bool false]) (by simp[results,results138,go_sem,Z,d1];try exact⟨rfl,rfl⟩) rfl ⟨by simp only[qFd,Y.out];rfl,?_⟩
   exact(N.setCell qle _).setCell qle _
 · have Y:=qh hc
   clear hc
   obtain⟨_,e1,_⟩:=(h.kept N).cells
   go_wp2_with fail
   refine(qNe seed x _).mono ?_
   rintro r w3 ⟨rfl,G⟩
   obtain⟨q,O⟩:∃q,q=qP2 seed x:=⟨_,rfl⟩
   rw[←O]
   have HQ:=qh O
   clear O
   have f:=c.kept G
   have k3:qA4 w w3:=qA4.of N G
   clear c c0 c1 f0 f1 N G e1
   have c0:=f.cell 0
   have c1:=f.cell 1
   have f0:=f.free 0
   have f1:=f.free 1
   go_wp2
   have d:=(f.set 0 (U q.1)).set 1 (U q.2)
   have Z:=d.cell 0
   have d1:=d.cell 1
   refine bodyPost_ret (v:=.tuple #[Pr q,.bool true]) (by simp[results,results138,go_sem,Z,d1];try exact⟨rfl,rfl⟩) rfl ⟨by simp only[qFd,Y.out,HQ.out];rfl,?_⟩
   exact(k3.setCell qle _).setCell qle _
theorem qL5 (seed:BitVec 64)(b:Nat)(w:World):Calls prog 41 #[U seed,.pointer (some ⟨b,0,none⟩)] w fun r w'=>r= .returned (.pointer (some ⟨w.heap.size+1,0,none⟩))∧qBt 96 w' (w.heap.size+1) b w.heap.size seed [1#32] 1∧qA4 w w'∧w'.heap.size=w.heap.size+2:=by
 go_enter func41,ntmps41
 go_wp2
 go_ret
 have f:=(Blk.new w #[W 1#32] 94).alloc (.cells #[.pointer (some ⟨b,0,none⟩),U seed,.slice (some ⟨w.heap.size,0,none⟩) 1 1] 96)
 have c:=Blk.new (w.alloc (.cells #[W 1#32] 94)) #[.pointer (some ⟨b,0,none⟩),U seed,.slice (some ⟨w.heap.size,0,none⟩) 1 1] 96
 rw[show(w.alloc (.cells #[W 1#32] 94)).heap.size=w.heap.size+1 by simp]at c
 refine⟨rfl,⟨c,⟨rfl,.inr ⟨w.heap.size,1,#[W 1#32],rfl,Nat.zero_le _,f,Nat.le_refl _,by decide,rfl,rfl⟩⟩⟩,(qal _).alloc (by simp) _,by simp⟩
attribute [go_sem] qL4
@[go_sem] theorem qS7 (t:TypeId) (x:BitVec 32):binOp .add t (W x) (.int .u32 1)=pure (W (x+1#32)):=qL4 t x 1#32
theorem qKX.chg {g k:Nat}{e:TypeId}{w w':World}{row:Option Nat}(h:qKX row k e w w')(hr:∀i,row=some i→i=g):Chg [g] w w':=
 ⟨h.os,h.tape,h.output,h.size,fun i c hn=>by
  rcases h.block i c with hs|⟨hr',_⟩
  · exact hs
  · exact absurd (hr i hr') (by simpa using hn)⟩
theorem qQP {w:World}{B g n cap:Nat}{e:TypeId}{xs:List Value}(h:w.ownsRow B e 1 (.slice (some ⟨g,0,none⟩) n cap) n xs):∃cur,Blk w g cur e:=by
 rcases h.2 with ⟨h0,_⟩|⟨_,_,cur,e',_,hb,_⟩
 · cases h0
 · cases e';exact⟨cur,hb⟩
def qPc (r:Bool)(l:List (BitVec 32)):List (BitVec 32):=if r then l++ [qAl l+1#32] else l
def qQi (r:Bool)(l:List (BitVec 32))(below:BitVec 32):List (BitVec 32):=if r then qH2 l below else l
theorem qPd (K b g:Nat)(seed:BitVec 64)(l:List (BitVec 32))(cap:Nat)(p p':Pw)(r:Bool)(h0:0<l.length)(hl:l.length≤90000)(w:World)(h:qBt 96 w K b g seed l cap)(hp:qD1 w b p)(hok:p.ok 9223372036854775806)(hsp:p.spend=(r,p')) :
 Calls prog 125 #[.pointer (some ⟨K,0,none⟩)] w fun e w'=>∃g' cap',e= .returned (.bool r)∧qD1 w' b p'∧qBt 96 w' K b g' seed (qPc r l) cap'∧(g'=g∨w.heap.size≤g')∧Chg [b,K,g] w w':=by
 obtain⟨cur,q⟩:=h.blkg
 have I:b≠K:=qAE hp h.blk (by decide)
 have N:b≠g:=qAE hp q (by decide)
 have Z:K≠g:=qAE h.blk q (by decide)
 obtain⟨e0,_,_⟩:=h.cells
 go_enter func125,ntmps125
 go_wp2_with fail
 refine(qAK b p p' r _ hp hok hsp).mono ?_
 rintro e w1 ⟨rfl,p1,J⟩
 have J:=Chg.of_grown J
 have Y:=h.chg J (by simpa using I.symm) (by simpa using N.symm)
 cases r
 · go_wp2
   go_ret
   exact⟨g,cap,rfl,p1,Y,.inl rfl,J.mono (by simp)⟩
 · clear e0 q
   have s1:=J.size
   go_wp2_with fail
   refine qAb [g] [(0,0),(1,0),(2,0),(3,0),(4,0),(5,0),(6,1),(7,0),(8,1),(9,1),(10,2),(11,2),(12,2)] (by kernel_rfl) (by kernel_rfl) ?_
   intro w2 O
   replace Y:=Y.kept O
   repeat
    refine qA0 _ rfl (fun K c=>?_)
    first
     | (refine qqP (by rfl) ?_;apply Exists.intro;refine⟨fun w' a2=>?_,c _ ?_⟩;(have d2:=a2.cell Y.cells.2.2 (by simpa using Z);go_simp;first|done|rfl))
     | refine qqN (by rfl) (c _ ?_)
    clear c K;simp only[Act.put,qqB]
   refine qqH _ rfl (by rfl) (fun K c=>?_)
   go_wp2_with fail
   refine(qKa _ _ _ _ l _ h0 (by omega) _ Y).mono ?_
   rintro e w3 ⟨rfl,F⟩
   go_wp2
   refine c _ _ (Chg.of_kept F) ?_
   clear c K
   try simp only[Act.put,qqB]
   repeat
    refine qA0 _ rfl (fun K c=>?_)
    first
     | (refine qqP (by rfl) ?_;apply Exists.intro;refine⟨fun w' a2=>?_,c _ ?_⟩;go_simp;first|done|rfl)
     | refine qqN (by rfl) (c _ ?_)
    clear c K;simp only[Act.put,qqB]
   refine qqH _ rfl (by rfl) (fun K c=>?_)
   go_wp2
   refine c _ _ (Chg.of_kept (qal _)) ?_
   clear c K
   try simp only[Act.put,qqB]
   refine qqH _ rfl (by rfl) (fun K c=>?_)
   have h3:=Y.kept F
   have a3:=h3.row
   refine qBE qHL (by rfl) (by rfl) (by rfl) (a3.alloc _) (Sl.one _ _ _) (by rfl) (qID [qAl l+1#32]) (by unfold maxLen;omega) (by omega) (Nat.zero_le _) ?_
   intro v5 w5 f a0 a1 _
   obtain⟨g5,j,rfl,_,_⟩:=qFT f (by omega)
   have c5:Chg [g] (w3.alloc (.cells #[W (qAl l+1#32)] 94)) w5:=a0.chg (fun i hi=>(Option.some.inj hi).symm)
   have ck:Chg [g] w1 w5:=(Chg.of_kept (qA4.of O F)).trans ((Chg.of_kept (qal _)).trans c5)
   refine c _ _ (c5) ?_
   clear c K
   try simp only[Act.put,qqB]
   refine qAg _ rfl (fun K c=>?_)
   refine qqP (by rfl) ?_
   go_wp2
   refine qAg _ rfl (fun K c=>?_)
   refine qqP (by rfl) ?_
   go_wp2
   refine qAg _ rfl (fun K c=>?_)
   refine qqP (by rfl) ?_
   have G:=ck.blk (h.chg J (by simpa using I.symm) (by simpa using N.symm)).blk (by simpa using Z)
   have f2:=G.free 2
   have e2:=G.cell 2
   go_wp2
   refine qA6 ?_
   go_wp2
   go_ret
   obtain⟨a5,V⟩:=qQP f
   have a4:K≠g5:=qAE G V (by decide)
   have hq:Chg [K] w5 (w5.setCell ⟨K,2,none⟩ (.slice (some ⟨g5,0,none⟩) (l.length+1) j)):=Chg.step (by simp) _
   refine⟨g5,j,rfl,?_,⟨by simpa [qPc] using G.set 2 (.slice (some ⟨g5,0,none⟩) (l.length+1) j),?_⟩,?_,?_⟩
   · exact hq.blk (ck.blk p1 (by simpa using N)) (by simpa using I)
   · have:=qK9 f hq (by simpa using a4.symm)
     rw[qPc,if_pos rfl,qEu,List.length_append]
     exact this
   · rcases a1 with h5|h5
     · exact .inl (Option.some.inj h5)
     · refine .inr ?_
       have:=Option.some.inj h5
       have hz:(w3.alloc (.cells #[W (qAl l+1#32)] 94)).heap.size=w3.heap.size+1:=by simp
       have q2:=O.size
       have q3:=F.size
       have:g5=(w3.alloc (.cells #[W (qAl l+1#32)] 94)).heap.size:=this
       omega
   · exact(J.mono (by simp)).trans ((ck.mono (by simp)).trans (hq.mono (by simp)))
theorem qNf (K b g:Nat)(seed:BitVec 64)(l:List (BitVec 32))(cap:Nat)(below:BitVec 32)(p p':Pw)(r:Bool)(h0:0<l.length)(hl:l.length≤90000)(w:World)(h:qBt 96 w K b g seed l cap)(hp:qD1 w b p)(hok:p.ok 9223372036854775806)(hsp:p.spend=(r,p')) :
 Calls prog 114 #[.pointer (some ⟨K,0,none⟩),W below] w fun e w'=>∃g' cap',e= .returned (.bool r)∧qD1 w' b p'∧qBt 96 w' K b g' seed (qQi r l below) cap'∧(g'=g∨w.heap.size≤g')∧Chg [b,K,g] w w':=by
 obtain⟨cur,c⟩:=h.blkg
 have G:b≠K:=qAE hp h.blk (by decide)
 have O:b≠g:=qAE hp c (by decide)
 have I:K≠g:=qAE h.blk c (by decide)
 have a5:=c.lt
 have a4:=h.blk.lt
 have a3:=Blk.lt hp
 have a0:Chg [b] w (w.alloc (.cells #[W below] 94)):=Chg.of_kept (qal _)
 have ha:=h.kept ((qal _):qA4 w (w.alloc (.cells #[W below] 94)))
 have pa:=Blk.kept hp ((qal _):qA4 w (w.alloc (.cells #[W below] 94)))
 have a2:=Blk.new w #[W below] 94
 obtain⟨e0,_,_⟩:=ha.cells
 go_enter func114,ntmps114
 go_wp2_with fail
 generalize Y:w.alloc (.cells #[W below] 94)=wa at *
 refine(qAK b p p' r _ pa hok hsp).mono ?_
 rintro e w1 ⟨rfl,p1,J⟩
 have J:=Chg.of_grown J
 have h1:=ha.chg J (by simpa using G.symm) (by simpa using O.symm)
 have a1:=J.blk a2 (by simp;omega)
 have Z:=a0.trans J
 have s2:=Z.size
 clear Y e0 c
 cases r
 · go_wp2
   go_ret
   exact⟨g,cap,rfl,p1,h1,.inl rfl,Z.mono (by simp)⟩
 · go_wp2_with fail
   refine(qKa _ _ _ _ l _ h0 (by omega) _ h1).mono ?_
   rintro e N ⟨rfl,f⟩
   have q:qA4 N (N.alloc (.cells #[W (qAl l)] 94)):=qal _
   have h3:=(h1.kept f).kept q
   have b3:=(a1.kept f).kept q
   have n3:=Blk.new N #[W (qAl l)] 94
   have c3:Chg [b] w (N.alloc (.cells #[W (qAl l)] 94)):=Z.trans (Chg.of_kept (qA4.of f q))
   have p3:=Blk.kept (Blk.kept p1 f) q
   have s3:=f.size
   have d1:w.heap.size≠g:=by omega
   have d2:N.heap.size≠g:=by omega
   obtain⟨_,_,e2⟩:=h3.cells
   go_wp2_with fail
   refine(qK8 below (qAl l) _ _ g cap l (by omega) _ (b3.cell 0) (n3.cell 0) d1 d2 h3.row).mono ?_
   rintro e w4 ⟨rfl,j,c4⟩
   have F:=c4.blk h3.blk (by simpa using I)
   have f2:=F.free 2
   have e3:=F.cell 2
   obtain⟨R,hR⟩:∃R,R=l.filter fun e=>!gone below (qAl l) e:=⟨_,rfl⟩
   rw[←hR]at j ⊢
   have HR:=qh hR
   clear e2 hR
   go_wp2
   go_ret
   have V:Chg [K] w4 (w4.setCell ⟨K,2,none⟩ (.slice (some ⟨g,0,none⟩) R.length cap)):=Chg.step (by simp) _
   have hd:qQi true l below=R:=HR.out.symm
   rw[hd]
   refine⟨g,cap,rfl,?_,⟨by simpa using F.set 2 (.slice (some ⟨g,0,none⟩) R.length cap),qK9 j V (by simpa using I.symm)⟩,.inl rfl,?_⟩
   · exact V.blk (c4.blk p3 (by simpa using O)) (by simpa using G)
   · exact(c3.mono (by simp)).trans ((c4.mono (by simp)).trans (V.mono (by simp)))
end Go.Proofs.YtdlgihbpiakebaaGreat
