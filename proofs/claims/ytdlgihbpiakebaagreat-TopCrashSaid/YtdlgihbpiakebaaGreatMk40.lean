import Derived.Test.YtdlgihbpiakebaaGreatMk04
import Derived.Test.YtdlgihbpiakebaaGreatMk29
import Derived.Test.YtdlgihbpiakebaaGreatMk37
import Derived.Test.YtdlgihbpiakebaaGreatMk39
set_option maxRecDepth 100000
set_option maxHeartbeats 4000000
namespace Go.Proofs.YtdlgihbpiakebaaGreat
open Go Go.RowKit Tryz
theorem qAf {P:Program}{ops:Array Oper}{Q:Exit→Act→World→Prop}{id:Nat}{a:Act}{w:World}(R:World→World→Prop)(l:List (Nat×Nat))(hm:P.follows .mixedOrders=true)
 (hB:(Region.noSelect ops&&decide (l.length=ops.size)&&qCk .any ops l l (Array.replicate ops.size false))=true)
 (hr0:∀w:World,R w w) (ht:∀a b c:World,R a b→R b c→R a c)
 (h:∀w0,qA4 w w0→qAR P ops R Q l a w0):(Code.region id ops true).wp P Q a w:=
 qBc R l hm hB hr0 ht (h _ (qA4.drawn w))
def qJ3 (ts:List TypeId)(w w':World):Prop:=∀b cs t,Blk w b cs t→t∉ts→Blk w' b cs t
theorem qJ3.refl {ts:List TypeId}(w:World):qJ3 ts w w:=fun _ _ _ h _=>h
theorem qJ3.trans {ts:List TypeId}{a b c:World}(h:qJ3 ts a b)(k:qJ3 ts b c):qJ3 ts a c:=fun g cs t j f=>k g cs t (h g cs t j f) f
theorem qJ3.kept {ts:List TypeId}{a b:World}(h:qA4 a b):qJ3 ts a b:=fun _ _ _ c _=>c.kept h
theorem qJ3.chg {ts:List TypeId}{g:Nat}{cs:Array Value}{t:TypeId}{a b:World}(h:Chg [g] a b)(hg:Blk a g cs t)(ht:t∈ts):qJ3 ts a b:=fun k j l c hn=>h.blk c fun f=>by
 rw[List.mem_singleton]at f
 subst f
 unfold Blk at c hg
 rw[c]at hg
 cases hg
 exact hn ht
def Lk.sealP (l:Lk)(key:qAD)(n:Nn)(head data:List UInt8):List UInt8×qAD:=match l with
 | .real=>(qH5 key n data,((qEb key n head data).1,(qEb key n head data).2))
 | .ideal iss _=>(qE2 (iss.length+1) data.length,(18446744073709551615#64,BitVec.ofNat 64 (iss.length+1)))
def Lk.sealL (l:Lk)(key:qAD)(n:Nn)(head data:List UInt8):Lk:=match l with
 | .real=>.real
 | .ideal iss sums=>.ideal (iss++ [qEN iss key n head data]) sums
def Lk.openP (l:Lk)(key:qAD)(n:Nn)(head out:List UInt8)(tag:qAD):Option (List UInt8):=match l with
 | .real=>if qHY key n head out tag then some (qH5 key n out) else none
 | .ideal iss _=>qEL iss key n head out tag
def Lk.dataOk (l:Lk):Prop:=match l with
 | .real=>True
 | .ideal iss _=>∀x∈iss,x.data.length≤4000∧x.data.length=x.out.length
theorem Lk.sealP_length (l:Lk)(key:qAD)(n:Nn)(head data:List UInt8):(l.sealP key n head data).1.length=data.length:=by
 cases l with
 | real=>exact qBB _ _ _
 | ideal iss sums=>exact qBI _ _
theorem One.newset {i g:Nat}{col col':Nat→Nat}{w w1 w2:World}(h:One i col col' w w1)(hc:Chg [g] w1 w2)(hg:w.heap.size≤g):One i col col' w w2:=
 ⟨hc.os.trans h.os,hc.tape.trans h.tape,hc.output.trans h.output,Nat.le_trans h.size hc.size,h.old,h.new,fun k c=>h.top k (Nat.le_trans hc.size c),fun k c f=>(hc.block k (Nat.lt_of_lt_of_le c h.size) (by rw[List.mem_singleton];omega)).trans (h.block k c f)⟩
theorem qNC (col:Nat→Nat)(L:Nat)(l:Lk)(key:qAD)(n:Nn)(vh vd:Value)(head data:List UInt8)(hf:l.few 100000)(hlh:head.length≤4000)(hld:data.length≤4000)(w:World)(h:LkC col w L l)(ht:Top col w)(sh:Sl w vh head.length (qA1 head))(sd:Sl w vd data.length (qA1 data)) :
 Calls prog 160 #[.pointer (some ⟨L,0,none⟩),.agg #[U key.1,U key.2],(.agg #[W n.epoch,W n.slot,U n.version]),vh,vd] w fun e w'=>∃u col',e= .returned (.tuple #[.agg #[u,U (l.sealP key n head data).2.1,U (l.sealP key n head data).2.2],.bool true])∧w'.ownsRow w.heap.size 5 1 u data.length (qA1 (l.sealP key n head data).1)∧(∀g,u.ownBlock=some g→col' g=0)∧LkC col' w' L (l.sealL key n head data)∧One 5 col col' w w':=by
 obtain⟨ah,ch,rfl⟩:=sh.len
 obtain⟨ad,cd,rfl⟩:=sd.len
 obtain⟨w0,I⟩:∃w0,w0=(((w.alloc (.cells #[U key.1,U key.2] 115)).alloc (.cells #[W n.epoch,W n.slot,U n.version] 113)).alloc (.cells #[.slice none 0 0,U 0#64,U 0#64] 165)):=⟨_,rfl⟩
 have F:qA4 w w0:=by rw[I];exact((qal _).alloc (by simp) _).alloc (by simp;omega) _
 have bK:Blk w0 w.heap.size #[U key.1,U key.2] 115:=by rw[I];exact((Blk.new w _ _).kept (qal _)).kept (qal _)
 have bN:Blk w0 (w.heap.size+1) #[W n.epoch,W n.slot,U n.version] 113:=by
  rw[I]
  have:=Blk.new (w.alloc (.cells #[U key.1,U key.2] 115)) #[W n.epoch,W n.slot,U n.version] 113
  rw[World.size_alloc]at this
  exact this.kept (qal _)
 have bZ:Blk w0 (w.heap.size+1+1) #[.slice none 0 0,U 0#64,U 0#64] 165:=by
  rw[I]
  have:=Blk.new ((w.alloc (.cells #[U key.1,U key.2] 115)).alloc (.cells #[W n.epoch,W n.slot,U n.version] 113)) #[.slice none 0 0,U 0#64,U 0#64] 165
  rw[World.size_alloc,World.size_alloc]at this
  exact this
 cases l with
 | real =>
  have h':=h
  obtain⟨f3,f4,Y,hc⟩:=h
  have q0:=(Y.kept F).cell 0
  rw[I]at q0
  go_enter func160,ntmps160
  go_wp2_with fail
  rw[←I]
  clear I q0
  refine qAf (qJ3 [182,184,165]) [(0,0),(1,0),(2,0),(3,0),(4,0),(5,0),(6,0),(7,0),(8,1),(9,0),(10,0),(11,1),(12,0)] (by kernel_rfl) (by kernel_rfl) ?_ ?_ ?_
  · exact fun _=>qJ3.refl _
  · exact fun _ _ _ h1 h2=>h1.trans h2
  intro z1 f
  repeat
   refine qA0 _ rfl (fun K q=>?_)
   first
    | (refine qqP (by rfl) ?_;apply Exists.intro;refine⟨fun w' G=>?_,q _ ?_⟩;(have c:=G _ _ _ (Y.kept (F.of f)) (by decide);have c0:=c.cell 0;clear c;have d:=G _ _ _ (bK.kept f) (by decide);have d0:=d.cell 0;have d1:=d.cell 1;clear d;have m:=G _ _ _ (bN.kept f) (by decide);have m0:=m.cell 0;have m1:=m.cell 1;have m2:=m.cell 2;clear m;go_simp;first|done|rfl))
    | refine qqN (by rfl) (q _ ?_)
   clear q K;simp only[Act.put,qqB]
  refine qqH _ rfl (by rfl) (fun K q=>?_)
  go_wp2_with fail
  refine(qPx key.1 key.2 n _ _ head data hlh hld _ (sh.kept (F.of f)) (sd.kept (F.of f))).mono ?_
  rintro e z2 ⟨u,rfl,ho,kz⟩
  obtain⟨Z,d3,rfl⟩:=(Sl.of_own ho).len
  obtain⟨T1,J⟩:∃x,x=(qEb (key.1,key.2) n head data).1:=⟨_,rfl⟩
  obtain⟨T2,N⟩:∃x,x=(qEb (key.1,key.2) n head data).2:=⟨_,rfl⟩
  rw[←J,←N]
  replace J:=qh J
  replace N:=qh N
  have b4:qA4 w z2:=(F.of f).of kz
  have one:One 5 col col w z2:=One.kept ht b4
  have HL:LkC col z2 L .real:=h'.frame (qB0.kept b4 5)
  have j:Blk z2 (w.heap.size+1+1) #[.slice none 0 0,U 0#64,U 0#64] 165:=bZ.kept (f.of kz)
  have a4:col (w.heap.size+1+1)=0:=ht _ (by omega)
  have a3:∀g,(Value.slice Z data.length d3).ownBlock=some g→col g=0:=fun g hg=>ht g (by have:=qAN ho hg;have:=(F.of f).size;omega)
  have a5:=qAh ho (F.of f).size
  go_wp2
  refine q _ _ (qJ3.kept kz) ?_
  clear q K
  try simp only[Act.put,qqB]
  repeat
   refine qA0 _ rfl (fun K q=>?_)
   first
    | (refine qqP (by rfl) ?_;apply Exists.intro;refine⟨fun w' G=>?_,q _ ?_⟩;go_simp;first|done|rfl)
    | refine qqN (by rfl) (q _ ?_)
   clear q K;simp only[Act.put,qqB]
  refine qqH _ rfl (by rfl) (fun K q=>?_)
  have f0:=j.free 0
  have f1:=j.free 1
  have f2:=j.free 2
  have x0:=j.cell 0
  have x1:=j.cell 1
  have x2:=j.cell 2
  go_wp2
  refine q _ _ (qJ3.chg ((((Chg.refl [w.heap.size+1+1] z2).set qsm 0 (.slice Z data.length d3)).set qsm 1 (U T1)).set qsm 2 (U T2)) j (by decide)) ?_
  clear q K
  try simp only[Act.put,qqB]
  repeat
   refine qA0 _ rfl (fun K q=>?_)
   first
    | (refine qqP (by rfl) ?_;apply Exists.intro;refine⟨fun w' G=>?_,q _ ?_⟩;go_simp;first|done|rfl)
    | refine qqN (by rfl) (q _ ?_)
   clear q K;simp only[Act.put,qqB]
  refine qA6 ?_
  have V:Chg [w.heap.size+1+1] z2 (((z2.setCell ⟨w.heap.size+1+1,0,none⟩ (.slice Z data.length d3)).setCell ⟨w.heap.size+1+1,1,none⟩ (U T1)).setCell ⟨w.heap.size+1+1,2,none⟩ (U T2)):=((((Chg.refl [w.heap.size+1+1] z2).set qsm 0 (.slice Z data.length d3)).set qsm 1 (U T1)).set qsm 2 (U T2))
  have bR:=((j.set 0 (.slice Z data.length d3)).set 1 (U T1)).set 2 (U T2)
  simp only[qqA,qq0,qq1]at bR
  clear f0 f1 f2 x0 x1 x2
  generalize (((z2.setCell ⟨w.heap.size+1+1,0,none⟩ (.slice Z data.length d3)).setCell ⟨w.heap.size+1+1,1,none⟩ (U T1)).setCell ⟨w.heap.size+1+1,2,none⟩ (U T2))=z3 at *
  go_wp2_with fail
  have r0:=bR.cell 0
  have r1:=bR.cell 1
  have r2:=bR.cell 2
  have a6:=qAu a5 V j (by decide)
  have a1:=one.newset V (by omega)
  have a8:=HL.frame (qB0.chg (col:=col) V (i:=5) (by intro b Y;rw[List.mem_singleton]at Y;subst Y;rw[a4];decide))
  refine bodyPost_ret (v:=.tuple #[.agg #[.slice Z data.length d3,U T1,U T2],.bool true]) (by simp[results,results160,go_sem,r0,r1,r2];done) rfl ⟨_,_,by rw[J.out,N.out];rfl,a6,a3,a8,a1⟩
 | ideal iss sums =>
  obtain⟨O,f3,f4,Y,hc,h2⟩:=h
  have q0:=(Y.kept F).cell 0
  rw[I]at q0
  go_enter func160,ntmps160
  go_wp2_with fail
  rw[←I]
  clear I q0
  refine qAf (qJ3 [182,184,165]) [(0,0),(1,0),(2,0),(3,0),(4,0),(5,0),(6,0),(7,0),(8,1),(9,0),(10,0),(11,1),(12,0)] (by kernel_rfl) (by kernel_rfl) ?_ ?_ ?_
  · exact fun _=>qJ3.refl _
  · exact fun _ _ _ h1 h2=>h1.trans h2
  intro z1 f
  repeat
   refine qA0 _ rfl (fun K q=>?_)
   first
    | (refine qqP (by rfl) ?_;apply Exists.intro;refine⟨fun w' G=>?_,q _ ?_⟩;(have c:=G _ _ _ (Y.kept (F.of f)) (by decide);have c0:=c.cell 0;clear c;have d:=G _ _ _ (bK.kept f) (by decide);have d0:=d.cell 0;have d1:=d.cell 1;clear d;have m:=G _ _ _ (bN.kept f) (by decide);have m0:=m.cell 0;have m1:=m.cell 1;have m2:=m.cell 2;clear m;go_simp;first|done|rfl))
    | refine qqN (by rfl) (q _ ?_)
   clear q K;simp only[Act.put,qqB]
  refine qqH _ rfl (by rfl) (fun K q=>?_)
  go_wp2_with fail
  refine(qKo col O iss sums key n _ _ head data hf.1 hlh hld _ (h2.frame (qB0.kept (F.of f) 5)) (fun k hk=>ht k (Nat.le_trans (F.of f).size hk)) (sh.kept (F.of f)) (sd.kept (F.of f))).mono ?_
  rintro e z2 ⟨u,a0,rfl,ho,a3,a9,a2,a7⟩
  obtain⟨Z,d3,rfl⟩:=(Sl.of_own ho).len
  obtain⟨T1,J⟩:∃x,x=18446744073709551615#64:=⟨_,rfl⟩
  obtain⟨T2,N⟩:∃x,x=BitVec.ofNat 64 (iss.length+1):=⟨_,rfl⟩
  rw[←J,←N]
  replace J:=qh J
  replace N:=qh N
  have one:One 5 col a0 w z2:=(One.kept ht (F.of f)).trans a2
  have HL:LkC a0 z2 L (.ideal (iss++ [qEN iss key n head data]) sums):=⟨O,f3,f4,a7 _ _ _ (Y.kept (F.of f)) (by decide) (by decide),(one.old _ Y.lt).trans hc,a9⟩
  have j:Blk z2 (w.heap.size+1+1) #[.slice none 0 0,U 0#64,U 0#64] 165:=a7 _ _ _ (bZ.kept f) (by decide) (by decide)
  have a4:a0 (w.heap.size+1+1)=0:=by rw[a2.old _ (bZ.kept f).lt];exact ht _ (by omega)
  have a5:=qAh ho (F.of f).size
  go_wp2
  refine q _ _ (fun b cs t Y hn=>a7 b cs t Y (fun e=>hn (by simp[e])) (fun e=>hn (by simp[e]))) ?_
  clear q K
  try simp only[Act.put,qqB]
  repeat
   refine qA0 _ rfl (fun K q=>?_)
   first
    | (refine qqP (by rfl) ?_;apply Exists.intro;refine⟨fun w' G=>?_,q _ ?_⟩;go_simp;first|done|rfl)
    | refine qqN (by rfl) (q _ ?_)
   clear q K;simp only[Act.put,qqB]
  refine qqH _ rfl (by rfl) (fun K q=>?_)
  have f0:=j.free 0
  have f1:=j.free 1
  have f2:=j.free 2
  have x0:=j.cell 0
  have x1:=j.cell 1
  have x2:=j.cell 2
  go_wp2
  refine q _ _ (qJ3.chg ((((Chg.refl [w.heap.size+1+1] z2).set qsm 0 (.slice Z data.length d3)).set qsm 1 (U T1)).set qsm 2 (U T2)) j (by decide)) ?_
  clear q K
  try simp only[Act.put,qqB]
  repeat
   refine qA0 _ rfl (fun K q=>?_)
   first
    | (refine qqP (by rfl) ?_;apply Exists.intro;refine⟨fun w' G=>?_,q _ ?_⟩;go_simp;first|done|rfl)
    | refine qqN (by rfl) (q _ ?_)
   clear q K;simp only[Act.put,qqB]
  refine qA6 ?_
  have V:Chg [w.heap.size+1+1] z2 (((z2.setCell ⟨w.heap.size+1+1,0,none⟩ (.slice Z data.length d3)).setCell ⟨w.heap.size+1+1,1,none⟩ (U T1)).setCell ⟨w.heap.size+1+1,2,none⟩ (U T2)):=((((Chg.refl [w.heap.size+1+1] z2).set qsm 0 (.slice Z data.length d3)).set qsm 1 (U T1)).set qsm 2 (U T2))
  have bR:=((j.set 0 (.slice Z data.length d3)).set 1 (U T1)).set 2 (U T2)
  simp only[qqA,qq0,qq1]at bR
  clear f0 f1 f2 x0 x1 x2
  generalize (((z2.setCell ⟨w.heap.size+1+1,0,none⟩ (.slice Z data.length d3)).setCell ⟨w.heap.size+1+1,1,none⟩ (U T1)).setCell ⟨w.heap.size+1+1,2,none⟩ (U T2))=z3 at *
  go_wp2_with fail
  have r0:=bR.cell 0
  have r1:=bR.cell 1
  have r2:=bR.cell 2
  have a6:=qAu a5 V j (by decide)
  have a1:=one.newset V (by omega)
  have a8:=HL.frame (qB0.chg (col:=a0) V (i:=5) (by intro b Y;rw[List.mem_singleton]at Y;subst Y;rw[a4];decide))
  refine bodyPost_ret (v:=.tuple #[.agg #[.slice Z data.length d3,U T1,U T2],.bool true]) (by simp[results,results160,go_sem,r0,r1,r2];done) rfl ⟨_,_,by rw[J.out,N.out];rfl,a6,a3,a8,a1⟩
theorem qEf.kept {w w':World}{v:Value}{l:List Iss}{rs:List (Value×Value×Value)}(h:qEf w v l rs)(hk:qA4 w w'):qEf w' v l rs:=
 ⟨qA5 h.row hk,h.len,fun i x r c j=>by
  obtain⟨f,F,q⟩:=h.each i x r c j
  exact⟨f.kept hk,F.kept hk,q.kept hk⟩,h.apart⟩
theorem qND (col:Nat→Nat)(L:Nat)(l:Lk)(key tag:qAD)(n:Nn)(vh vo:Value)(head out:List UInt8)(hf:l.few 100000)(hdo:l.dataOk)(hlh:head.length≤4000)(hlo:out.length≤4000)(w:World)(h:LkC col w L l)(sh:Sl w vh head.length (qA1 head))(so:Sl w vo out.length (qA1 out)) :
 Calls prog 141 #[.pointer (some ⟨L,0,none⟩),.agg #[U key.1,U key.2],(.agg #[W n.epoch,W n.slot,U n.version]),vh,.agg #[vo,U tag.1,U tag.2]] w fun e w'=>∃u,e= .returned (.tuple #[u,.bool (l.openP key n head out tag).isSome])∧(∀d,l.openP key n head out tag=some d→w'.ownsRow w.heap.size 5 1 u d.length (qA1 d))∧qA4 w w':=by
 obtain⟨ah,ch,rfl⟩:=sh.len
 obtain⟨ao,Z,rfl⟩:=so.len
 obtain⟨w0,F⟩:∃w0,w0=(((w.alloc (.cells #[U key.1,U key.2] 115)).alloc (.cells #[W n.epoch,W n.slot,U n.version] 113)).alloc (.cells #[.slice ao out.length Z,U tag.1,U tag.2] 165)):=⟨_,rfl⟩
 have j:qA4 w w0:=by rw[F];exact((qal _).alloc (by simp) _).alloc (by simp;omega) _
 have bK:Blk w0 w.heap.size #[U key.1,U key.2] 115:=by rw[F];exact((Blk.new w _ _).kept (qal _)).kept (qal _)
 have bN:Blk w0 (w.heap.size+1) #[W n.epoch,W n.slot,U n.version] 113:=by
  rw[F]
  have:=Blk.new (w.alloc (.cells #[U key.1,U key.2] 115)) #[W n.epoch,W n.slot,U n.version] 113
  rw[World.size_alloc]at this
  exact this.kept (qal _)
 have bZ:Blk w0 (w.heap.size+1+1) #[.slice ao out.length Z,U tag.1,U tag.2] 165:=by
  rw[F]
  have:=Blk.new ((w.alloc (.cells #[U key.1,U key.2] 115)).alloc (.cells #[W n.epoch,W n.slot,U n.version] 113)) #[.slice ao out.length Z,U tag.1,U tag.2] 165
  rw[World.size_alloc,World.size_alloc]at this
  exact this
 obtain⟨B,hB⟩:∃B,B=(l.openP key n head out tag).isSome:=⟨_,rfl⟩
 have Y:=qh hB
 clear hB
 cases l with
 | real =>
  obtain⟨f3,f4,hb,hc⟩:=h
  have q0:=(hb.kept j).cell 1
  rw[F]at q0
  have CC:∀I,qA4 w0 I→Calls prog 59 #[.agg #[U key.1,U key.2],(.agg #[W n.epoch,W n.slot,U n.version]),.slice ah head.length ch,.agg #[.slice ao out.length Z,U tag.1,U tag.2]] I fun e w'=>∃u,e= .returned (.tuple #[u,.bool B])∧(∀d,Lk.real.openP key n head out tag=some d→w'.ownsRow I.heap.size 5 1 u d.length (qA1 d))∧qA4 I w':=fun I f=>by
   refine(qPA key.1 key.2 n _ _ head out tag.1 tag.2 hlh hlo _ (sh.kept (j.of f)) (so.kept (j.of f))).mono ?_
   rintro e z2 ⟨u,rfl,N,V⟩
   refine⟨u,?_,fun d J=>?_,V⟩
   · rw[Y.out]
     unfold Lk.openP
     show _=Ending.returned (.tuple #[u,.bool (Option.isSome (if qHY (key.1,key.2) n head out (tag.1,tag.2) then _ else none))])
     cases qHY (key.1,key.2) n head out (tag.1,tag.2)<;>rfl
   · unfold Lk.openP at J
     simp only at J
     split at J
     · rename_i hk
       cases J
       unfold qPz at N
       rw[if_pos hk]at N
       exact N
     · cases J
  have a0:=Y
  go_enter func141,ntmps141
  go_wp2_with fail
  rw[←F]
  clear F q0
  refine qA3 [(0,0),(1,0),(2,0),(3,0),(4,0),(5,0),(6,0),(7,0),(8,1),(9,0),(10,0),(11,0),(12,0)] (by kernel_rfl) (by kernel_rfl) ?_
  intro I f
  repeat
   refine qA0 _ rfl (fun K G=>?_)
   first
    | (refine qqP (by rfl) ?_;apply Exists.intro;refine⟨fun w' q=>?_,G _ ?_⟩;(have c:=(hb.kept (j.of f)).kept q;have c1:=c.cell 1;clear c;have d:=(bK.kept f).kept q;have d0:=d.cell 0;have d1:=d.cell 1;clear d;have m:=(bN.kept f).kept q;have m0:=m.cell 0;have m1:=m.cell 1;have m2:=m.cell 2;clear m;have z:=(bZ.kept f).kept q;have z0:=z.cell 0;have I:=z.cell 1;have z2:=z.cell 2;clear z;go_simp;first|done|rfl))
    | refine qqN (by rfl) (G _ ?_)
   clear G K;simp only[Act.put,qqB]
  refine qqH _ rfl (by rfl) (fun K G=>?_)
  go_wp2_with fail
  refine(CC _ f).mono ?_
  rintro e z2 ⟨u,rfl,N,V⟩
  go_wp2
  refine G _ _ (V) ?_
  clear G K
  try simp only[Act.put,qqB]
  repeat
   refine qA0 _ rfl (fun K G=>?_)
   first
    | (refine qqP (by rfl) ?_;apply Exists.intro;refine⟨fun w' q=>?_,G _ ?_⟩;go_simp;first|done|rfl)
    | refine qqN (by rfl) (G _ ?_)
   clear G K;simp only[Act.put,qqB]
  refine qA6 ?_
  go_wp2_with fail
  refine bodyPost_ret (v:=.tuple #[u,.bool B]) (by simp[results,results141,go_sem];done) rfl ⟨_,by rw[Y.out],?_,(j.of f).of V⟩
  intro d J
  exact qAh (N d J) (j.of f).size
 | ideal iss sums =>
  obtain⟨O,f3,f4,hb,hc,v,rs,m,h1,h2,h3,c1,c2,c3⟩:=h
  have q0:=(hb.kept j).cell 1
  rw[F]at q0
  have CC:∀I,qA4 w0 I→Calls prog 65 #[.pointer (some ⟨O,0,none⟩),.agg #[U key.1,U key.2],(.agg #[W n.epoch,W n.slot,U n.version]),.slice ah head.length ch,.agg #[.slice ao out.length Z,U tag.1,U tag.2]] I fun e w'=>∃u,e= .returned (.tuple #[u,.bool B])∧(∀d,(Lk.ideal iss sums).openP key n head out tag=some d→w'.ownsRow I.heap.size 5 1 u d.length (qA1 d))∧qA4 I w':=fun I f=>by
   refine(qKn O m v _ _ rs iss key tag n head out hf.1 (fun x hx=>(hdo x hx).1) I (h1.kept (j.of f)) (h2.kept (j.of f)) (sh.kept (j.of f)) (so.kept (j.of f))).mono ?_
   rintro e z2 ⟨u,rfl,N,V⟩
   exact⟨u,by rw[Y.out];rfl,N,V⟩
  go_enter func141,ntmps141
  go_wp2_with fail
  rw[←F]
  clear F q0
  refine qA3 [(0,0),(1,0),(2,0),(3,0),(4,0),(5,0),(6,0),(7,0),(8,1),(9,0),(10,0),(11,0),(12,0)] (by kernel_rfl) (by kernel_rfl) ?_
  intro I f
  repeat
   refine qA0 _ rfl (fun K G=>?_)
   first
    | (refine qqP (by rfl) ?_;apply Exists.intro;refine⟨fun w' q=>?_,G _ ?_⟩;(have c:=(hb.kept (j.of f)).kept q;have c1:=c.cell 1;clear c;have d:=(bK.kept f).kept q;have d0:=d.cell 0;have d1:=d.cell 1;clear d;have m:=(bN.kept f).kept q;have m0:=m.cell 0;have m1:=m.cell 1;have m2:=m.cell 2;clear m;have z:=(bZ.kept f).kept q;have z0:=z.cell 0;have I:=z.cell 1;have z2:=z.cell 2;clear z;go_simp;first|done|rfl))
    | refine qqN (by rfl) (G _ ?_)
   clear G K;simp only[Act.put,qqB]
  refine qqH _ rfl (by rfl) (fun K G=>?_)
  go_wp2_with fail
  refine(CC _ f).mono ?_
  rintro e z2 ⟨u,rfl,N,V⟩
  go_wp2
  refine G _ _ (V) ?_
  clear G K
  try simp only[Act.put,qqB]
  repeat
   refine qA0 _ rfl (fun K G=>?_)
   first
    | (refine qqP (by rfl) ?_;apply Exists.intro;refine⟨fun w' q=>?_,G _ ?_⟩;go_simp;first|done|rfl)
    | refine qqN (by rfl) (G _ ?_)
   clear G K;simp only[Act.put,qqB]
  refine qA6 ?_
  go_wp2_with fail
  refine bodyPost_ret (v:=.tuple #[u,.bool B]) (by simp[results,results141,go_sem];done) rfl ⟨_,by rw[Y.out],?_,(j.of f).of V⟩
  intro d J
  exact qAh (N d J) (j.of f).size
def Wd.setL (x:Wd)(l:Lk):Wd:={ x with l:=l }
structure Wd.fine (x:Wd)(m:Nat):Prop where
 ok:x.ok m
 few:x.l.few m
 dat:x.l.dataOk
section
variable {col col':Nat→Nat} {w w':World} {P:qAU} {x:Wd} {m:Nat}
theorem qAW.stepL (h:qAW col w P x){l:Lk}(hl:LkC col' w' P.l l)(o:One 5 col col' w w'):qAW col' w' P (x.setL l)∧Ext 6 col col' w w':=by
 obtain⟨G,F⟩:=(o.same (j:=7) (by omega)).blk h.blk h.cW
 obtain⟨f,q⟩:=(o.same (j:=6) (by omega)).blk h.pw h.cb
 obtain⟨I,J⟩:=(o.same (j:=3) (by omega)).blk h.cnt h.cc
 refine⟨⟨G,F,f,q,fun k O N=>?_,h.ssd.frame (o.same (by omega)) f,h.dsk.frame (o.same (by omega)) f,I,J,h.keys.frame (o.same (by omega)),hl,o.top⟩,o.ext (by omega) (by omega)⟩
 by_cases c:k<w.heap.size
 · exact h.one k c (by rw[←o.old k c];exact N)
 · have:=o.new k (by omega)
   omega
theorem Lk.few_mono {l:Lk}{m n:Nat}(h:l.few m)(hm:m≤n):l.few n:=by
 cases l with
 | real=>trivial
 | ideal iss sums=>exact⟨Nat.le_trans h.1 hm,Nat.le_trans h.2 hm⟩
theorem qHZ (sums:List (List UInt8))(row:List UInt8):(qB1 sums row).length≤sums.length+1:=by
 unfold qB1;split<;>simp
theorem Lk.few_sum {l:Lk}{m:Nat}(h:l.few m)(row:List UInt8):(l.sumL row).few (m+1):=by
 cases l with
 | real=>trivial
 | ideal iss sums=>exact⟨by have:=h.1;show iss.length≤_;omega,by have:=h.2;have:=qHZ sums row;show(qB1 sums row).length≤_;omega⟩
theorem Lk.few_seal {l:Lk}{m:Nat}(h:l.few m)(key:qAD)(n:Nn)(head data:List UInt8):(l.sealL key n head data).few (m+1):=by
 cases l with
 | real=>trivial
 | ideal iss sums=>exact⟨by have:=h.1;show(iss++ [_]).length≤_;simp;omega,by have:=h.2;show sums.length≤_;omega⟩
theorem Lk.dat_seal {l:Lk}(h:l.dataOk)(key:qAD)(n:Nn)(head data:List UInt8)(hd:data.length≤4000):(l.sealL key n head data).dataOk:=by
 cases l with
 | real=>trivial
 | ideal iss sums =>
  intro x c
  rcases List.mem_append.1 c with c|c
  · exact h x c
  · rw[List.mem_singleton]at c
    subst c
    exact⟨hd,(qBI _ _).symm⟩
theorem Lk.dat_sum {l:Lk}(h:l.dataOk)(row:List UInt8):(l.sumL row).dataOk:=by
 cases l with
 | real=>trivial
 | ideal iss sums=>exact h
theorem qGg (h:qAW col w P x)(f:x.fine m)(hm:m≤100000)(key:qAD)(n:Nn)(vh vd:Value)(head data:List UInt8)(hlh:head.length≤4000)(hld:data.length≤4000)(sh:Sl w vh head.length (qA1 head))(sd:Sl w vd data.length (qA1 data)) :
 Calls prog 160 #[.pointer (some ⟨P.l,0,none⟩),.agg #[U key.1,U key.2],.agg #[W n.epoch,W n.slot,U n.version],vh,vd] w fun e w'=>∃u col',e= .returned (.tuple #[.agg #[u,U (x.l.sealP key n head data).2.1,U (x.l.sealP key n head data).2.2],.bool true])∧w'.ownsRow w.heap.size 5 1 u data.length (qA1 (x.l.sealP key n head data).1)∧(∀g,u.ownBlock=some g→col' g=0)∧qAW col' w' P (x.setL (x.l.sealL key n head data))∧Ext 6 col col' w w':=by
 refine(qNC col P.l x.l key n vh vd head data (Lk.few_mono f.few hm) hlh hld w h.lock h.top sh sd).mono ?_
 rintro e w' ⟨u,col',rfl,c,j,hl,o⟩
 exact⟨u,col',rfl,c,j,h.stepL hl o⟩
theorem qNE (h:qAW col w P x)(f:x.fine m)(hm:m≤100000)(key tag:qAD)(n:Nn)(vh vo:Value)(head out:List UInt8)(hlh:head.length≤4000)(hlo:out.length≤4000)(sh:Sl w vh head.length (qA1 head))(so:Sl w vo out.length (qA1 out)) :
 Calls prog 141 #[.pointer (some ⟨P.l,0,none⟩),.agg #[U key.1,U key.2],.agg #[W n.epoch,W n.slot,U n.version],vh,.agg #[vo,U tag.1,U tag.2]] w fun e w'=>∃u,e= .returned (.tuple #[u,.bool (x.l.openP key n head out tag).isSome])∧(∀d,x.l.openP key n head out tag=some d→w'.ownsRow w.heap.size 5 1 u d.length (qA1 d))∧qA4 w w':=
 qND col P.l x.l key tag n vh vo head out (Lk.few_mono f.few hm) f.dat hlh hlo w h.lock sh so
theorem qSg {n:Nat}{y:Wr}(h:inB n y):y.2.length≤n:=by have:=h.2.2;omega
theorem qNF {p:Pw}{m n:Nat}(h:p.ok (m:Int))(hm:m≤n):p.ok (n:Int):=⟨h.1,by have:=h.2.1;omega,h.2.2⟩
theorem qC3 {p:Pw}{m:Nat}(h:p.ok (m:Int)):p.spend.2.ok ((m+1:Nat):Int):=by
 have:=qHH h
 exact_mod_cast this
theorem Sd.ok.z_wrote {s:Sd}{n m:Nat}(h:s.ok n m)(hn:n≤60000)(r:Bool){p':Pw}(hp:p'.ok ((m+1:Nat):Int)){y:Wr}(hy:inB n y):(s.wrote r p' y).ok n (m+1):=by
 unfold Sd.wrote
 cases r
 · exact⟨h.len,h.fit,h.fitp,Nat.le_succ_of_le h.few,Nat.le_succ_of_le h.done,hp⟩
 · refine⟨h.len,fun z c=>?_,fun z c=>?_,?_,?_,hp⟩
   · rcases List.mem_append.1 c with c|c
     · exact h.fit z c
     · rw[List.mem_singleton.1 c];exact hy
   · rcases List.mem_append.1 c with c|c
     · exact h.fitp z c
     · rw[List.mem_singleton.1 c];have:=qSg hy;omega
   · have:=h.few;simp;omega
   · have:=h.done;simp;omega
theorem Sd.ok.z_barred {s:Sd}{n m:Nat}(h:s.ok n m)(r:Bool){p':Pw}(hp:p'.ok ((m+1:Nat):Int)):(s.barred r p').ok n (m+1):=by
 unfold Sd.barred
 cases r
 · exact⟨h.len,h.fit,h.fitp,Nat.le_succ_of_le h.few,Nat.le_succ_of_le h.done,hp⟩
 · refine⟨Sd.snap_length h,by simp,fun z c=>?_,by simp,?_,hp⟩
   · rcases List.mem_append.1 c with c|c
     · exact h.fitp z c
     · rw[List.mem_singleton.1 c];decide
   · have:=h.done;simp;omega
theorem Sd.ok.z_pw {s:Sd}{n m:Nat}(h:s.ok n m){p':Pw}{k:Nat}(hk:m≤k)(hp:p'.ok (k:Int)):({ s with p:=p' }:Sd).ok n k:=⟨h.len,h.fit,h.fitp,Nat.le_trans h.few hk,Nat.le_trans h.done hk,hp⟩
theorem Dk.ok.z_pw {d:Dk}{m:Nat}(h:d.ok m){p':Pw}{k:Nat}(hk:m≤k)(hp:p'.ok (k:Int)):({ d with p:=p' }:Dk).ok k:=⟨h.len,h.all,h.fit,h.fitp,Nat.le_trans h.few hk,Nat.le_trans h.done hk,hp⟩
theorem Dk.ok.z_wrote {d:Dk}{m:Nat}(h:d.ok m)(r:Bool){p':Pw}(hp:p'.ok ((m+1:Nat):Int)){y:Wr}(hy:inD y):(d.wrote r p' y).ok (m+1):=by
 unfold Dk.wrote
 cases r
 · exact h.z_pw (Nat.le_succ _) hp
 · refine⟨h.len,h.all,fun z c=>?_,fun z c=>?_,?_,?_,hp⟩
   · rcases List.mem_append.1 c with c|c
     · exact h.fit z c
     · rw[List.mem_singleton.1 c];exact hy
   · rcases List.mem_append.1 c with c|c
     · exact h.fitp z c
     · rw[List.mem_singleton.1 c];have:=hy.2.2;omega
   · have:=h.few;simp;omega
   · have:=h.done;simp;omega
theorem Dk.ok.z_barred {d:Dk}{m:Nat}(h:d.ok m)(r:Bool){p':Pw}(hp:p'.ok ((m+1:Nat):Int)):(d.barred r p').ok (m+1):=by
 unfold Dk.barred
 cases r
 · exact h.z_pw (Nat.le_succ _) hp
 · have f:=Dk.settled_ok (h.z_pw (Nat.le_succ m) hp) (fun _=>true)
   refine⟨f.len,f.all,f.fit,fun z c=>?_,f.few,?_,hp⟩
   · rcases List.mem_append.1 c with c|c
     · exact h.fitp z c
     · rw[List.mem_singleton.1 c];decide
   · have:=h.done;simp;omega
theorem Wd.fine.up (f:x.fine m){k:Nat}(hk:m≤k):x.fine k:=
 ⟨⟨f.ok.sl,f.ok.s.z_pw hk (qNF f.ok.s.pw hk),f.ok.d.z_pw hk (qNF f.ok.s.pw hk),f.ok.ep,by have:=f.ok.el;omega,f.ok.er,by have:=f.ok.en;omega,Nat.le_trans f.ok.cv hk,Nat.le_trans f.ok.cb hk⟩,Lk.few_mono f.few hk,f.dat⟩
theorem Wd.fine.setS (f:x.fine m){s:Sd}(hs:s.ok (gSize x.n) (m+1)):(x.setS s).fine (m+1):=
 ⟨⟨f.ok.sl,hs,f.ok.d.z_pw (Nat.le_succ _) hs.pw,f.ok.ep,by have:=f.ok.el;show x.eps.length≤_;omega,f.ok.er,by have:=f.ok.en;show(qAl x.eps).toNat≤_;omega,Nat.le_succ_of_le f.ok.cv,Nat.le_succ_of_le f.ok.cb⟩,Lk.few_mono f.few (Nat.le_succ _),f.dat⟩
theorem Wd.fine.setD (f:x.fine m){d:Dk}(hd:d.ok (m+1)):(x.setD d).fine (m+1):=
 ⟨⟨f.ok.sl,f.ok.s.z_pw (Nat.le_succ _) hd.pw,hd,f.ok.ep,by have:=f.ok.el;show x.eps.length≤_;omega,f.ok.er,by have:=f.ok.en;show(qAl x.eps).toNat≤_;omega,Nat.le_succ_of_le f.ok.cv,Nat.le_succ_of_le f.ok.cb⟩,Lk.few_mono f.few (Nat.le_succ _),f.dat⟩
theorem Wd.fine.setL (f:x.fine m){l:Lk}(h1:l.few (m+1))(h2:l.dataOk):(x.setL l).fine (m+1):=
 have g:=f.up (Nat.le_succ m)
 ⟨⟨g.ok.sl,g.ok.s,g.ok.d,g.ok.ep,g.ok.el,g.ok.er,g.ok.en,g.ok.cv,g.ok.cb⟩,h1,h2⟩
theorem Wd.fine.sWrite (f:x.fine m){y:Wr}(hy:inB (gSize x.n) y):(x.sWrite y).fine (m+1):=
 f.setS (f.ok.s.z_wrote f.ok.size.2 _ (qC3 f.ok.s.pw) hy)
theorem Wd.fine.sBarrier (f:x.fine m):x.sBarrier.fine (m+1):=f.setS (f.ok.s.z_barred _ (qC3 f.ok.s.pw))
theorem Wd.fine.dWrite (f:x.fine m){y:Wr}(hy:inD y):(x.dWrite y).fine (m+1):=f.setD (f.ok.d.z_wrote _ (qC3 f.ok.s.pw) hy)
theorem Wd.fine.dBarrier (f:x.fine m):x.dBarrier.fine (m+1):=f.setD (f.ok.d.z_barred _ (qC3 f.ok.s.pw))
theorem Wd.fine.seal (f:x.fine m)(key:qAD)(n:Nn)(head data:List UInt8)(hd:data.length≤4000):(x.setL (x.l.sealL key n head data)).fine (m+1):=f.setL (Lk.few_seal f.few ..) (Lk.dat_seal f.dat _ _ _ _ hd)
theorem Wd.fine.setP (f:x.fine m){p:Pw}(hp:p.ok ((m+1:Nat):Int)):(x.setP p).fine (m+1):=
 ⟨⟨f.ok.sl,f.ok.s.z_pw (Nat.le_succ _) hp,f.ok.d.z_pw (Nat.le_succ _) hp,f.ok.ep,by have:=f.ok.el;show x.eps.length≤_;omega,f.ok.er,by have:=f.ok.en;show(qAl x.eps).toNat≤_;omega,Nat.le_succ_of_le f.ok.cv,Nat.le_succ_of_le f.ok.cb⟩,Lk.few_mono f.few (Nat.le_succ _),f.dat⟩
theorem Wd.fine.setC (f:x.fine m){p:Pw}{c:Cn}(hp:p.ok ((m+1:Nat):Int))(h1:c.value.toNat≤m+1)(h2:c.boots.toNat≤m+1):(x.setC p c).fine (m+1):=
 ⟨⟨f.ok.sl,f.ok.s.z_pw (Nat.le_succ _) hp,f.ok.d.z_pw (Nat.le_succ _) hp,f.ok.ep,by have:=f.ok.el;show x.eps.length≤_;omega,f.ok.er,by have:=f.ok.en;show(qAl x.eps).toNat≤_;omega,h1,h2⟩,Lk.few_mono f.few (Nat.le_succ _),f.dat⟩
theorem qEO {v:BitVec 64}{m:Nat}(h:v.toNat≤m):(v+1#64).toNat≤m+1:=by
 rw[BitVec.toNat_add]
 exact Nat.le_trans (Nat.mod_le _ _) (by simp;omega)
theorem Wd.fine.bump (f:x.fine m):x.bump.fine (m+1):=by
 unfold Wd.bump
 cases x.p.spend.1
 · exact f.setC (qC3 f.ok.s.pw) (Nat.le_succ_of_le f.ok.cv) (Nat.le_succ_of_le f.ok.cb)
 · exact f.setC (qC3 f.ok.s.pw) (qEO f.ok.cv) (Nat.le_succ_of_le f.ok.cb)
theorem Wd.fine.boot (f:x.fine m):x.boot.fine (m+1):=by
 unfold Wd.boot
 cases x.p.spend.1
 · exact f.setC (qC3 f.ok.s.pw) (Nat.le_succ_of_le f.ok.cv) (Nat.le_succ_of_le f.ok.cb)
 · exact f.setC (qC3 f.ok.s.pw) (Nat.le_succ_of_le f.ok.cv) (qEO f.ok.cb)
theorem Wd.fine.kAdd (f:x.fine m)(hm:m≤1000000):x.kAdd.fine (m+1):=by
 have hp:=qC3 f.ok.s.pw
 have g:=f.setP hp
 unfold Wd.kAdd qPc
 cases x.p.spend.1
 · exact⟨⟨g.ok.sl,g.ok.s,g.ok.d,g.ok.ep,g.ok.el,g.ok.er,g.ok.en,g.ok.cv,g.ok.cb⟩,g.few,g.dat⟩
 · have c:(qAl x.eps+1#32).toNat=(qAl x.eps).toNat+1:=by
    have:=f.ok.en
    rw[BitVec.toNat_add]
    show((qAl x.eps).toNat+1) % 4294967296=_
    omega
   refine⟨⟨g.ok.sl,g.ok.s,g.ok.d,?_,?_,?_,?_,g.ok.cv,g.ok.cb⟩,g.few,g.dat⟩
   · show 0<(x.eps++ [_]).length;simp
   · show(x.eps++ [_]).length≤_;have:=f.ok.el;simp;omega
   · exact qJR f.ok.er f.ok.ep _ (by rw[BitVec.lt_def,c];omega)
   · show(qAl (x.eps++ [_])).toNat≤_;rw[qH1,c];have:=f.ok.en;omega
theorem Wd.fine.kErase (f:x.fine m)(b:BitVec 32):(x.kErase b).fine (m+1):=by
 have hp:=qC3 f.ok.s.pw
 have g:=f.setP hp
 unfold Wd.kErase qQi
 cases x.p.spend.1
 · exact⟨⟨g.ok.sl,g.ok.s,g.ok.d,g.ok.ep,g.ok.el,g.ok.er,g.ok.en,g.ok.cv,g.ok.cb⟩,g.few,g.dat⟩
 · have c:=qF8 x.eps b f.ok.ep
   refine⟨⟨g.ok.sl,g.ok.s,g.ok.d,c.1,?_,qHG f.ok.er b,?_,g.ok.cv,g.ok.cb⟩,g.few,g.dat⟩
   · have:=f.ok.el;exact Nat.le_trans (List.length_filter_le _ _) (by omega)
   · show(qAl (qH2 x.eps b)).toNat≤_;rw[c.2];have:=f.ok.en;omega
theorem Wd.fine.sCrash (f:x.fine m)(ks:List Bool):(x.sCrash ks).fine (m+1):=by
 have h:=f.ok.s
 refine f.setS ⟨(qCD _ _ _ (fun y c=>by rw[h.len];exact h.fit y c) _ qle).trans h.len,by simp,h.fitp,by simp,Nat.le_succ_of_le h.done,qNF h.pw (Nat.le_succ _)⟩
theorem Wd.fine.dCrash (f:x.fine m)(ks:List Bool):(x.dCrash ks).fine (m+1):=
 f.setD (Dk.settled_ok (f.ok.d.z_pw (Nat.le_succ m) (qNF f.ok.s.pw (Nat.le_succ _))) _)
theorem Wd.fine.dRefuse (f:x.fine m)(q:Bool):(x.dRefuse q).fine (m+1):=by
 have h:=f.ok.d.z_pw (Nat.le_succ m) (qNF f.ok.s.pw (Nat.le_succ m))
 exact f.setD ⟨h.len,h.all,h.fit,h.fitp,h.few,h.done,h.pw⟩
end
theorem qT7 {w:World}{g:Nat}{t:TypeId}{u1 u2:Value}{b1 b2:List UInt8}(h:Blk w g #[u1,u2] t)(s1:Sl w u1 b1.length (qA1 b1))(s2:Sl w u2 b2.length (qA1 b2)):qBG w (.slice (some ⟨g,0,none⟩) 2 2) [b1,b2]:=by
 refine⟨[u1,u2],rfl,Sl.mk qle (by decide) fun j u l=>?_,fun i bs u c f=>?_⟩
 · rw[Nat.zero_add,h.cell j]
   simpa using l
 · match i with
   | 0=>cases c;cases f;exact s1
   | 1=>cases c;cases f;exact s2
   | i+2=>simp at c
theorem qT8 {w:World}{g:Nat}{t:TypeId}{u1 u2 u3:Value}{b1 b2 b3:List UInt8}(h:Blk w g #[u1,u2,u3] t)(s1:Sl w u1 b1.length (qA1 b1))(s2:Sl w u2 b2.length (qA1 b2))(s3:Sl w u3 b3.length (qA1 b3)):qBG w (.slice (some ⟨g,0,none⟩) 3 3) [b1,b2,b3]:=by
 refine⟨[u1,u2,u3],rfl,Sl.mk qle (by decide) fun j u l=>?_,fun i bs u c f=>?_⟩
 · rw[Nat.zero_add,h.cell j]
   simpa using l
 · match i with
   | 0=>cases c;cases f;exact s1
   | 1=>cases c;cases f;exact s2
   | 2=>cases c;cases f;exact s3
   | i+3=>simp at c
theorem qNG {w:World}{g:Nat}{b:UInt8}(h:Blk w g #[V8 b] 5):Sl w (.slice (some ⟨g,0,none⟩) 1 1) ([b]:List UInt8).length (qA1 [b]):=by
 refine Sl.mk qle (by decide) fun j u c=>?_
 rw[Nat.zero_add,h.cell j]
 simpa [qA1] using c
theorem qPB (col:Nat→Nat)(L:Nat)(l:Lk)(v:Value)(bs:List UInt8)(hl:bs.length≤1000)(hf:l.few 1000000)(w:World)(h:LkC col w L l)(ht:Top col w)(hs:Sl w v bs.length (qA1 bs)) :
 Calls prog 143 #[.pointer (some ⟨L,0,none⟩),v] w fun e w'=>e= .returned (Pr (l.sumP (0::bs)))∧LkC col w' L (l.sumL (0::bs))∧One 5 col col w w':=by
 obtain⟨a,c,rfl⟩:=hs.len
 obtain⟨q,f⟩:∃q,q=(((w.alloc (.cells #[U 0#64,U 0#64] 115)).alloc (.cells #[V8 0] 5)).alloc (.cells #[.slice (some ⟨w.heap.size+1,0,none⟩) 1 1,.slice a bs.length c] 32)):=⟨_,rfl⟩
 have j:qA4 w q:=by rw[f];exact((qal _).alloc (by simp) _).alloc (by simp;omega) _
 have bZ:Blk q w.heap.size #[U 0#64,U 0#64] 115:=by rw[f];exact((Blk.new w _ _).alloc _).alloc _
 have bB:Blk q (w.heap.size+1) #[V8 0] 5:=by
  rw[f]
  have:=Blk.new (w.alloc (.cells #[U 0#64,U 0#64] 115)) #[V8 0] 5
  rw[World.size_alloc]at this
  exact this.alloc _
 have bR:Blk q (w.heap.size+1+1) #[.slice (some ⟨w.heap.size+1,0,none⟩) 1 1,.slice a bs.length c] 32:=by
  rw[f]
  have:=Blk.new ((w.alloc (.cells #[U 0#64,U 0#64] 115)).alloc (.cells #[V8 0] 5)) #[.slice (some ⟨w.heap.size+1,0,none⟩) 1 1,.slice a bs.length c] 32
  rw[World.size_alloc,World.size_alloc]at this
  exact this
 have hR:=qT7 bR (qNG bB) (hs.kept j)
 have N:=qLd col L l _ [[0],bs] (by simp) (by simp;omega) hf q (h.frame (qB0.kept j 5)) (fun k hk=>ht k (Nat.le_trans j.size hk)) hR
 rw[show([[0],bs]:List (List UInt8)).flatten=0::bs by simp]at N
 obtain⟨s,G⟩:∃s,s=l.sumP (0::bs):=⟨_,rfl⟩
 rw[←G]at N ⊢
 obtain⟨s1,s2⟩:=s
 have a0:bs.length≤maxLen:=by unfold maxLen;omega
 clear G
 go_enter func143,ntmps143
 go_wp2_with fail
 rw[←f]
 clear f
 refine N.mono ?_
 rintro e J ⟨rfl,hL,ks,O,h5⟩
 have I:Blk J w.heap.size #[U 0#64,U 0#64] 115:=O.blk bZ fun hm=>by have:=h5 _ hm;rw[ht _ qle]at this;cases this
 have y0:=I.free 0
 have y1:=I.free 1
 have x0:=I.cell 0
 have x1:=I.cell 1
 unfold Pr
 go_wp2
 have V:=(I.set 0 (U s1)).set 1 (U s2)
 have r0:=V.cell 0
 have r1:=V.cell 1
 have F:Chg [w.heap.size] J ((J.setCell ⟨w.heap.size,0,none⟩ (U s1)).setCell ⟨w.heap.size,1,none⟩ (U s2)):=((Chg.refl _ _).set qsm 0 _).set qsm 1 _
 generalize ((J.setCell ⟨w.heap.size,0,none⟩ (U s1)).setCell ⟨w.heap.size,1,none⟩ (U s2))=w5 at *
 have hz:=j.size
 refine bodyPost_ret (v:=.agg #[U s1,U s2]) (by simp[results,results143,go_sem,r0,r1];try exact⟨rfl,rfl⟩) rfl ⟨rfl,?_,?_⟩
 · exact hL.frame (qB0.chg (col:=col) F (i:=5) (by intro b Y;rw[List.mem_singleton]at Y;subst Y;rw[ht _ qle];decide))
 · have Z:One 5 col col w q:=One.kept ht j
   exact(Z.trans (One.chg Z.top O h5)).newset F qle
theorem qBZ {P:Program}{ops:Array Oper}{Q:Exit→Act→World→Prop}{id:Nat}{a:Act}{w:World}(R:World→World→Prop)(L:List (Nat×Nat))(l:qGQ)(hm:P.follows .mixedOrders=true)
 (hB:(Region.noSelect ops&&decide (l.size=ops.size)&&qEs .any ops L l (Array.replicate ops.size false))=true)
 (hr0:∀w:World,R w w) (ht:∀a b c:World,R a b→R b c→R a c)
 (h:∀w0,qA4 w w0→qBD P ops R Q l a w0):(Code.region id ops true).wp P Q a w:=
 qE5 R L l hm hB hr0 ht (h _ (qA4.drawn w))
theorem qPC (col:Nat→Nat)(L:Nat)(l:Lk)(p q:qAD)(hf:l.few 1000000)(w:World)(h:LkC col w L l)(ht:Top col w) :
 Calls prog 144 #[.pointer (some ⟨L,0,none⟩),.agg #[U p.1,U p.2],.agg #[U q.1,U q.2]] w fun e w'=>e= .returned (Pr (l.sumP (1::(qAJ p++qAJ q))))∧LkC col w' L (l.sumL (1::(qAJ p++qAJ q)))∧One 5 col col w w':=by
 obtain⟨w0,Y⟩:∃w0,w0=(((w.alloc (.cells #[U p.1,U p.2] 115)).alloc (.cells #[U q.1,U q.2] 115)).alloc (.cells #[U 0#64,U 0#64] 115)):=⟨_,rfl⟩
 have a8:qA4 w w0:=by rw[Y];exact((qal _).alloc (by simp) _).alloc (by simp;omega) _
 have bP:Blk w0 w.heap.size #[U p.1,U p.2] 115:=by rw[Y];exact((Blk.new w _ _).alloc _).alloc _
 have bQ:Blk w0 (w.heap.size+1) #[U q.1,U q.2] 115:=by
  rw[Y]
  have:=Blk.new (w.alloc (.cells #[U p.1,U p.2] 115)) #[U q.1,U q.2] 115
  rw[World.size_alloc]at this
  exact this.alloc _
 have bZ:Blk w0 (w.heap.size+1+1) #[U 0#64,U 0#64] 115:=by
  rw[Y]
  have:=Blk.new ((w.alloc (.cells #[U p.1,U p.2] 115)).alloc (.cells #[U q.1,U q.2] 115)) #[U 0#64,U 0#64] 115
  rw[World.size_alloc,World.size_alloc]at this
  exact this
 obtain⟨s,a7⟩:∃s,s=l.sumP (1::(qAJ p++qAJ q)):=⟨_,rfl⟩
 have HS:=qh a7
 rw[←a7]
 clear a7
 obtain⟨s1,s2⟩:=s
 go_enter func144,ntmps144
 go_wp2_with fail
 rw[←Y]
 clear Y
 refine qBZ (qA8 (fun k=>k=w.heap.size∨k=w.heap.size+1)) [(0,0),(2,0),(4,0)] (.light 0 (.light 2 (.light 4 (.two 1 3 (.heavy 3 (.heavy 5 (.heavy 6 (.heavy 7 (.heavy 8 .nil))))) (.two 1 5 (.heavy 5 (.heavy 6 (.heavy 7 (.heavy 8 .nil)))) (.heavy 1 (.heavy 6 (.heavy 7 (.heavy 8 .nil))))))))) (by kernel_rfl) (by kernel_rfl) (fun _=>qA8.refl _) (fun _ _ _ h1 h2=>h1.trans h2) ?_
 intro y0 a6
 have F:qA4 w0 y0:=a6
 refine qA2 _ rfl (fun J j=>?_)
 refine qqP (by rfl) ?_;apply Exists.intro;refine⟨fun w' a3=>?_,j _ ?_⟩
 · go_simp;first|done|rfl
 clear j J;simp only[Act.put,qqB]
 refine qA2 _ rfl (fun J j=>?_)
 refine qqP (by rfl) ?_;apply Exists.intro;refine⟨fun w' a3=>?_,j _ ?_⟩
 · have c:=bP.kept a6;have d0:=(a3.block _ c.lt (.inl rfl)).trans c;have c0:=Blk.cell d0 0;have Z:=Blk.cell d0 1;clear c d0;go_simp;first|done|rfl
 clear j J;simp only[Act.put,qqB]
 refine qA2 _ rfl (fun J j=>?_)
 refine qqP (by rfl) ?_;apply Exists.intro;refine⟨fun w' a3=>?_,j _ ?_⟩
 · have c:=bQ.kept a6;have d0:=(a3.block _ c.lt (.inr rfl)).trans c;have c0:=Blk.cell d0 0;have Z:=Blk.cell d0 1;clear c d0;go_simp;first|done|rfl
 clear j J;simp only[Act.put,qqB]
 refine qC2 ?_ ?_
 focus
  refine qAc _ rfl (fun J j=>?_)
  refine qqP (by rfl) ?_
  have f:qA4 y0 (y0.alloc (.cells #[V8 1] 5)):=qal _
  have O:=Blk.new y0 #[V8 1] 5
  replace F:=qA4.of F f
  obtain⟨gb,I⟩:∃g,g=y0.heap.size:=⟨_,rfl⟩
  rw[←I]at O
  go_wp2
  refine j _ _ (qA8.of_kept f) ?_
  clear j J
  try simp only[Act.put,qqB]
  rw[←I]
  generalize (y0.alloc (.cells #[V8 1] 5))=y1 at *
  clear f I
  refine qAc _ rfl (fun J j=>?_)
  refine qqP (by rfl) ?_
  go_wp2_with fail
  refine(qBs p.1 p.2 _).mono ?_
  rintro e y2 ⟨r,rfl,G,f⟩
  obtain⟨a1,Z,rfl⟩:=(Sl.of_own G).len
  replace G:=qAh G (Nat.zero_le _)
  replace O:=Blk.kept O f
  replace F:=qA4.of F f
  go_wp2
  refine j _ _ (qA8.of_kept f) ?_
  clear j J
  try simp only[Act.put,qqB]
  clear f
  refine qAc _ rfl (fun J j=>?_)
  refine qqP (by rfl) ?_
  go_wp2_with fail
  refine(qBs q.1 q.2 _).mono ?_
  rintro e V ⟨r,rfl,N,f⟩
  obtain⟨a2,c2,rfl⟩:=(Sl.of_own N).len
  replace N:=qAh N (Nat.zero_le _)
  replace O:=Blk.kept O f
  replace G:=qA5 G f
  replace F:=qA4.of F f
  go_wp2
  refine j _ _ (qA8.of_kept f) ?_
  clear j J
  try simp only[Act.put,qqB]
  clear f
  refine qAc _ rfl (fun J j=>?_)
  refine qqP (by rfl) ?_
  have f:qA4 V (V.alloc (.cells #[.slice (some ⟨gb,0,none⟩) 1 1,.slice a1 16 Z,.slice a2 16 c2] 32)):=qal _
  have bR:=Blk.new V #[.slice (some ⟨gb,0,none⟩) 1 1,.slice a1 16 Z,.slice a2 16 c2] 32
  replace O:=Blk.kept O f
  replace G:=qA5 G f
  replace N:=qA5 N f
 rotate_left
 focus
  refine qAc _ rfl (fun J j=>?_)
  refine qqP (by rfl) ?_
  go_wp2_with fail
  refine(qBs p.1 p.2 _).mono ?_
  rintro e y1 ⟨r,rfl,G,f⟩
  obtain⟨a1,Z,rfl⟩:=(Sl.of_own G).len
  replace G:=qAh G (Nat.zero_le _)
  replace F:=qA4.of F f
  go_wp2
  refine j _ _ (qA8.of_kept f) ?_
  clear j J
  try simp only[Act.put,qqB]
  clear f
  refine qC2 ?_ ?_
  focus
   refine qAc _ rfl (fun J j=>?_)
   refine qqP (by rfl) ?_
   have f:qA4 y1 (y1.alloc (.cells #[V8 1] 5)):=qal _
   have O:=Blk.new y1 #[V8 1] 5
   replace G:=qA5 G f
   replace F:=qA4.of F f
   obtain⟨gb,I⟩:∃g,g=y1.heap.size:=⟨_,rfl⟩
   rw[←I]at O
   go_wp2
   refine j _ _ (qA8.of_kept f) ?_
   clear j J
   try simp only[Act.put,qqB]
   rw[←I]
   generalize (y1.alloc (.cells #[V8 1] 5))=y2 at *
   clear f I
   refine qAc _ rfl (fun J j=>?_)
   refine qqP (by rfl) ?_
   go_wp2_with fail
   refine(qBs q.1 q.2 _).mono ?_
   rintro e V ⟨r,rfl,N,f⟩
   obtain⟨a2,c2,rfl⟩:=(Sl.of_own N).len
   replace N:=qAh N (Nat.zero_le _)
   replace G:=qA5 G f
   replace O:=Blk.kept O f
   replace F:=qA4.of F f
   go_wp2
   refine j _ _ (qA8.of_kept f) ?_
   clear j J
   try simp only[Act.put,qqB]
   clear f
   refine qAc _ rfl (fun J j=>?_)
   refine qqP (by rfl) ?_
   have f:qA4 V (V.alloc (.cells #[.slice (some ⟨gb,0,none⟩) 1 1,.slice a1 16 Z,.slice a2 16 c2] 32)):=qal _
   have bR:=Blk.new V #[.slice (some ⟨gb,0,none⟩) 1 1,.slice a1 16 Z,.slice a2 16 c2] 32
   replace G:=qA5 G f
   replace O:=Blk.kept O f
   replace N:=qA5 N f
  rotate_left
  focus
   refine qAc _ rfl (fun J j=>?_)
   refine qqP (by rfl) ?_
   go_wp2_with fail
   refine(qBs q.1 q.2 _).mono ?_
   rintro e y2 ⟨r,rfl,N,f⟩
   obtain⟨a2,c2,rfl⟩:=(Sl.of_own N).len
   replace N:=qAh N (Nat.zero_le _)
   replace G:=qA5 G f
   replace F:=qA4.of F f
   go_wp2
   refine j _ _ (qA8.of_kept f) ?_
   clear j J
   try simp only[Act.put,qqB]
   clear f
   refine qAc _ rfl (fun J j=>?_)
   refine qqP (by rfl) ?_
   have f:qA4 y2 (y2.alloc (.cells #[V8 1] 5)):=qal _
   have O:=Blk.new y2 #[V8 1] 5
   replace G:=qA5 G f
   replace N:=qA5 N f
   replace F:=qA4.of F f
   obtain⟨gb,I⟩:∃g,g=y2.heap.size:=⟨_,rfl⟩
   rw[←I]at O
   go_wp2
   refine j _ _ (qA8.of_kept f) ?_
   clear j J
   try simp only[Act.put,qqB]
   rw[←I]
   generalize (y2.alloc (.cells #[V8 1] 5))=V at *
   clear f I
   refine qAc _ rfl (fun J j=>?_)
   refine qqP (by rfl) ?_
   have f:qA4 V (V.alloc (.cells #[.slice (some ⟨gb,0,none⟩) 1 1,.slice a1 16 Z,.slice a2 16 c2] 32)):=qal _
   have bR:=Blk.new V #[.slice (some ⟨gb,0,none⟩) 1 1,.slice a1 16 Z,.slice a2 16 c2] 32
   replace G:=qA5 G f
   replace N:=qA5 N f
   replace O:=Blk.kept O f
 all_goals
  replace F:=qA4.of F f
  obtain⟨gr,a5⟩:∃g,g=V.heap.size:=⟨_,rfl⟩
  rw[←a5]at bR
  go_wp2
  refine j _ _ (qA8.of_kept f) ?_
  clear j J
  try simp only[Act.put,qqB]
  rw[←a5]
  generalize (V.alloc (.cells #[.slice (some ⟨gb,0,none⟩) 1 1,.slice a1 16 Z,.slice a2 16 c2] 32))=z0 at *
  clear f a5
  refine qAc _ rfl (fun J j=>?_)
  refine qqP (by rfl) ?_
  have hR:=qT8 bR (qNG O) (show Sl z0 (.slice a1 16 Z) (qAJ p).length (qA1 (qAJ p)) from by rw[qAs];exact Sl.of_own G) (show Sl z0 (.slice a2 16 c2) (qAJ q).length (qA1 (qAJ q)) from by rw[qAs];exact Sl.of_own N)
  have a0:=a8.of F
  have CC:=qLd col L l _ [[1],qAJ p,qAJ q] (by simp) (by simp[qAs]) hf z0 (h.frame (qB0.kept a0 5)) (fun k hk=>ht k (Nat.le_trans a0.size hk)) hR
  rw[show([[1],qAJ p,qAJ q]:List (List UInt8)).flatten=1::(qAJ p++qAJ q) by simp,←HS.out]at CC
  go_wp2_with fail
  refine CC.mono ?_
  rintro e z1 ⟨rfl,hL,ks,hc,h5⟩
  have a9:=a0.size
  have hZ:Blk z1 (w.heap.size+1+1) #[U 0#64,U 0#64] 115:=hc.blk (bZ.kept F) fun hm=>by have:=h5 _ hm;rw[ht _ (by omega)]at this;cases this
  unfold Pr
  go_wp2
  refine j _ _ (qA8.of_chg hc fun b hb hA=>by have:=h5 b hb;rw[ht b (by rcases hA with rfl|rfl<;>omega)]at this;cases this) ?_
  clear j J
  try simp only[Act.put,qqB]
  refine qAc _ rfl (fun J j=>?_)
  refine qqP (by rfl) ?_
  have y0:=hZ.free 0
  have y1:=hZ.free 1
  have x0:=hZ.cell 0
  have x1:=hZ.cell 1
  have a4:Chg [w.heap.size+1+1] z1 ((z1.setCell ⟨w.heap.size+1+1,0,none⟩ (U s1)).setCell ⟨w.heap.size+1+1,1,none⟩ (U s2)):=((Chg.refl _ _).set qsm 0 _).set qsm 1 _
  have bF:=(hZ.set 0 (U s1)).set 1 (U s2)
  go_wp2
  refine j _ _ (qA8.of_chg a4 fun b hb hA=>by rw[List.mem_singleton]at hb;subst hb;rcases hA with hA|hA<;>omega) ?_
  clear j J
  try simp only[Act.put,qqB]
  have r0:=bF.cell 0
  have r1:=bF.cell 1
  clear x0 x1 y0 y1
  generalize ((z1.setCell ⟨w.heap.size+1+1,0,none⟩ (U s1)).setCell ⟨w.heap.size+1+1,1,none⟩ (U s2))=z2 at *
  refine qCZ ?_
  go_wp2_with fail
  refine bodyPost_ret (v:=.agg #[U s1,U s2]) (by simp[results,results144,go_sem,r0,r1];try exact⟨rfl,rfl⟩) rfl ⟨rfl,?_,?_⟩
  · exact hL.frame (qB0.chg (col:=col) a4 (i:=5) (by intro b hb;rw[List.mem_singleton]at hb;subst hb;rw[ht _ (by omega)];decide))
  · have oo:One 5 col col w z0:=One.kept ht a0
    exact(oo.trans (One.chg oo.top hc h5)).newset a4 (by omega)
def qAB (l:Lk)(rows:List (List UInt8)):Nat→List qAD×Lk
 | 0=>(List.replicate (2*rows.length) (0#64,0#64),l)
 | i+1=>((qAB l rows i).1.set (rows.length+i) ((qAB l rows i).2.sumP (0::rows[i]?.getD [])),(qAB l rows i).2.sumL (0::rows[i]?.getD []))
def qCu (nd:List qAD)(i:Nat):List UInt8:=1::(qAJ (nd[2*i]?.getD (0#64,0#64))++qAJ (nd[2*i+1]?.getD (0#64,0#64)))
def qAz (l:Lk)(rows:List (List UInt8)):Nat→List qAD×Lk
 | 0=>qAB l rows rows.length
 | k+1=>((qAz l rows k).1.set (rows.length - 1 - k) ((qAz l rows k).2.sumP (qCu (qAz l rows k).1 (rows.length - 1 - k))),(qAz l rows k).2.sumL (qCu (qAz l rows k).1 (rows.length - 1 - k)))
def qAX (l:Lk)(rows:List (List UInt8)):List qAD×Lk:=qAz l rows (rows.length - 1)
theorem qCK (l:Lk)(rows:List (List UInt8)):∀i,(qAB l rows i).1.length=2*rows.length
 | 0=>by simp[qAB]
 | i+1=>by simp[qAB,qCK l rows i]
theorem qCL (l:Lk)(rows:List (List UInt8)):∀i,(qAz l rows i).1.length=2*rows.length
 | 0=>qCK l rows _
 | i+1=>by simp[qAz,qCL l rows i]
theorem qDa (l:Lk)(rows:List (List UInt8)):(qAX l rows).1.length=2*rows.length:=qCL l rows _
theorem qEh {l:Lk}{m:Nat}(h:l.few m)(rows:List (List UInt8)):∀i,(qAB l rows i).2.few (m+i)
 | 0=>h
 | i+1=>Lk.few_sum (qEh h rows i) _
theorem qEi {l:Lk}{m:Nat}(h:l.few m)(rows:List (List UInt8)):∀i,(qAz l rows i).2.few (m+rows.length+i)
 | 0=>qEh h rows _
 | i+1=>Lk.few_sum (qEi h rows i) _
theorem qGh {l:Lk}(h:l.dataOk)(rows:List (List UInt8)):∀i,(qAB l rows i).2.dataOk
 | 0=>h
 | i+1=>Lk.dat_sum (qGh h rows i) _
theorem qGi {l:Lk}(h:l.dataOk)(rows:List (List UInt8)):∀i,(qAz l rows i).2.dataOk
 | 0=>qGh h rows _
 | i+1=>Lk.dat_sum (qGi h rows i) _
theorem qHi (l:List qAD)(k:Nat)(p:qAD)(hk:k<l.length):(((qAA l).toArray.setIfInBounds (k*2) (U p.1)).setIfInBounds (k*2+1) (U p.2))=(qAA (l.set k p)).toArray:=by
 apply Array.ext'
 simp only[Array.toList_setIfInBounds]
 induction l generalizing k with
 | nil=>simp at hk
 | cons q l ih =>
  cases k with
  | zero=>simp[qAA]
  | succ k =>
   have:=ih k (by simpa using hk)
   have e:∀(q:qAD) (l:List qAD),qAA (q::l)=U q.1::U q.2::qAA l:=fun q l=>by simp[qAA]
   rw[e,List.set_cons_succ,e,show(k+1)*2=(k*2+1)+1 by omega,show(k*2+1)+1+1=(k*2+1+1)+1 by omega]
   simp only[List.set_cons_succ]
   rw[this]
theorem qCv (l:List qAD)(k:Nat)(hk:k<l.length):(qAA l).toArray[k*2]? = some (U (l[k]?.getD (0#64,0#64)).1)∧(qAA l).toArray[k*2+1]? = some (U (l[k]?.getD (0#64,0#64)).2):=by
 obtain⟨c,f⟩:=qGZ l k hk
 rw[List.getElem?_eq_getElem hk]
 simp only[List.getElem?_toArray,Option.getD_some]
 exact⟨c,f⟩
theorem qJ4 (n:Nat):(madeCells #[U 0#64,U 0#64] n).toList=List.replicate n (U 0#64):=by
 apply List.ext_getElem
 · simp[madeCells]
 · intro i c f
   simp only[madeCells,Array.getElem_toList,Array.getElem_map,Array.getElem_range,List.getElem_replicate]
   have:i % 2=0∨i % 2=1:=by omega
   show(#[U 0#64,U 0#64]:Array Value)[i % 2]! = _
   rcases this with h|h<;>rw[h]<;>rfl
theorem qMd (w:World)(n:Nat)(hn:n≤1000):(Instr.makeSlice 198 (.int .i64 (n:Int)) (.int .i64 (n:Int))).run prog w= .ok (.slice (some ⟨w.heap.size,0,none⟩) n n) (w.alloc (.cells (qAA (List.replicate n (0#64,0#64))).toArray 115)):=by
 have T:SlT prog 198 115 2 16 (.agg #[U 0#64,U 0#64]):=SlT.mk' underlying198 (by kernel_rfl) rfl (by omega)
 obtain⟨i,c,h,j,f⟩:=T.info
 have:=run_make (P:=prog) w 198 115 i _ T.under c h .i64 .i64 n n (by omega) (Int.le_refl _) (by rw[f];omega) (by omega)
 rw[this,j]
 simp only[Int.toNat_natCast]
 have e:madeCells #[U 0#64,U 0#64] (n*2)=(qAA (List.replicate n (0#64,0#64))).toArray:=by
  apply Array.ext'
  rw[qJ4]
  induction n with
  | zero=>rfl
  | succ k ih =>
   have e:qAA (List.replicate (k+1) (0#64,0#64))=U 0#64::U 0#64::qAA (List.replicate k (0#64,0#64)):=by simp[qAA,List.replicate_succ]
   rw[e,show(k+1)*2=k*2+1+1 by omega,List.replicate_succ,List.replicate_succ,ih (by omega)]
   exact run_make (P:=prog) w 198 115 i _ T.under c h .i64 .i64 k k (by omega) (Int.le_refl _) (by rw[f];omega) (by omega)
 rw[←e]
 rfl
theorem qHj (col:Nat→Nat)(L:Nat)(l:Lk)(v:Value)(rows:List (List UInt8))(hn:qD9 (rows.length:Int)=true)(hb:∀r∈rows,r.length≤1000)(hf:l.few 900000)(w:World)(h:LkC col w L l)(ht:Top col w)(hr:∀w',One 5 col col w w'→qBG w' v rows) :
 Calls prog 106 #[.pointer (some ⟨L,0,none⟩),v] w fun e w'=>∃g,e= .returned (.tuple #[.slice (some ⟨g,0,none⟩) (2*rows.length) (2*rows.length),.bool true])∧Blk w' g (qAA (qAX l rows).1).toArray 115∧w.heap.size≤g∧LkC col w' L (qAX l rows).2∧One 5 col col w w':=by
 have a4:=hr w (One.kept ht (Below.refl _ _))
 obtain⟨a,c,rfl⟩:∃a c,v= .slice a rows.length c:=by obtain⟨us,_,hs,_⟩:=a4;exact hs.len
 have d1:=qAo hn
 obtain⟨N,hN⟩:∃N,N=rows.length:=⟨_,rfl⟩
 rw[←hN]at hn d1 hr a4 ⊢
 have G:=qh hN
 have CG:=fun wx=>qEe (N:Int) wx
 rw[hn]at CG
 have e9:=qMd w (2*N) (by omega)
 rw[show((2*N:Nat):Int)=2*(N:Int) by omega]at e9
 have i1:(N:Int)≤16:=by omega
 have i2:(0:Int)<(N:Int):=by omega
 obtain⟨b,off,cap,e,_,_,_,_⟩:∃b off cap,(Value.slice a N c)= .slice (some ⟨b,off,none⟩) N cap∧N≤cap∧cap≤maxLen∧b<w.heap.size∧True:=by
  obtain⟨us,h1,h2,h3⟩:=a4
  obtain⟨b,off,cap,e,k1,F,k3,_⟩:=(show Sl w (.slice a N c) N us from by rw[G.out];rw[G.out]at h2;exact h2).at (by rw[h1,←hN];omega)
  exact⟨b,off,cap,e,k1,F,k3,trivial⟩
 cases e
 clear hN a4
 go_enter func106,ntmps106
 go_wp2_with fail
 refine(CG _).mono ?_
 rintro e w1 ⟨rfl,rfl⟩
 have c8:qA4 w (w.alloc (.cells (qAA (List.replicate (2*N) (0#64,0#64))).toArray 115)):=qal _
 have d8:=Blk.new w (qAA (List.replicate (2*N) (0#64,0#64))).toArray 115
 go_wp2_with fail
 generalize (w.alloc (.cells (qAA (List.replicate (2*N) (0#64,0#64))).toArray 115))=wA at *
 go_loopw [21] (fun i wr=>∃k:Nat,i= .int .i64 k∧k≤N∧One 5 col col w wr∧Blk wr w.heap.size (qAA (qAB l rows k).1).toArray 115∧LkC col wr L (qAB l rows k).2) (fun i _=>N - (intOf i).toNat)
 case atStart=>exact⟨0,rfl,by omega,One.kept ht c8,by rw[G.out]at d8;exact d8,h.frame (qB0.kept c8 5)⟩
 case round =>
  obtain⟨k,rfl,hk,o1,hB,hL⟩:=hrel
  by_cases d0:k<N
  · have m1:(k:Int)<(N:Int):=by omega
    have m2:(0:Int)≤(k:Int):=by omega
    have b6:k<rows.length:=by rw[←G.out];exact d0
    obtain⟨us,e5,hs,he⟩:=hr wr o1
    rw[←G.out]at hs
    have d2:k<us.length:=by rw[e5];exact b6
    obtain⟨b',f6,f4,e',_,_,g2,c9⟩:=hs.at (by omega)
    cases e'
    have c0:=c9 k _ (List.getElem?_eq_getElem d2)
    have a5:=he k _ _ (List.getElem?_eq_getElem b6) (List.getElem?_eq_getElem d2)
    obtain⟨row,f⟩:∃r,r=rows[k]:=⟨_,rfl⟩
    have f2:row.length≤1000:=by rw[f];exact hb _ (List.getElem_mem _)
    have d9:rows[k]?.getD []=row:=by rw[List.getElem?_eq_getElem b6,f];rfl
    rw[←f]at a5
    obtain⟨u,hu⟩:∃u,u=us[k]:=⟨_,rfl⟩
    rw[←hu]at c0 a5
    have HR:=qh d9
    clear f hu d9 c9 he hs
    obtain⟨ua,uc,rfl⟩:=a5.len
    have CC:=qPB col L (qAB l rows k).2 _ row f2 (Lk.few_mono (qEh hf rows k) (by omega)) wr hL o1.top a5
    obtain⟨s,q⟩:∃s,s=(qAB l rows k).2.sumP (0::row):=⟨_,rfl⟩
    rw[←q]at CC
    have HS:=qh q
    clear q
    obtain⟨s1,s2⟩:=s
    have a2:(qAB l rows k).1.length=2*rows.length:=qCK l rows k
    have d5:=qCv (qAB l rows k).1 (N+k) (by rw[a2,←G.out];omega)
    replace a2:=qh a2
    go_wp2_with fail
    refine CC.mono ?_
    rintro e w2 ⟨rfl,e6,o2⟩
    have V:Blk w2 w.heap.size (qAA (qAB l rows k).1).toArray 115:=(o2.block _ hB.lt (by rw[ht _ qle];decide)).trans hB
    have y0:=V.free ((N+k)*2)
    have y1:=V.free ((N+k)*2+1)
    have x0:=(V.cell ((N+k)*2)).trans d5.1
    have x1:=(V.cell ((N+k)*2+1)).trans d5.2
    unfold Pr
    go_wp2_with fail
    have I:Chg [w.heap.size] w2 ((w2.setCell ⟨w.heap.size,(N+k)*2,none⟩ (U s1)).setCell ⟨w.heap.size,(N+k)*2+1,none⟩ (U s2)):=((Chg.refl _ _).set qsm ((N+k)*2) _).set qsm ((N+k)*2+1) _
    have bF:=(V.set ((N+k)*2) (U s1)).set ((N+k)*2+1) (U s2)
    refine⟨⟨k+1,rfl,by omega,(o1.trans o2).newset I qle,?_,?_⟩,by simp[intOf];omega⟩
    · have:=qHi (qAB l rows k).1 (N+k) (s1,s2) (by rw[a2.out,←G.out];omega)
      rw[this]at bF
      have e:qAB l rows (k+1)=((qAB l rows k).1.set (N+k) (s1,s2),(qAB l rows k).2.sumL (0::row)):=by
       show(_,_)=_
       rw[HR.out,←HS.out,←G.out]
      rw[e]
      exact bF
    · have e:(qAB l rows (k+1)).2=(qAB l rows k).2.sumL (0::row):=by
       show(qAB l rows k).2.sumL (0::rows[k]?.getD [])=_
       rw[HR.out]
      rw[e]
      exact e6.frame (qB0.chg (col:=col) I (i:=5) (by intro b hb;rw[List.mem_singleton]at hb;subst hb;rw[ht _ qle];decide))
  · have c6:k=N:=by omega
    have f3:Blk wr w.heap.size (qAA (qAz l rows 0).1).toArray 115:=by
     show Blk wr w.heap.size (qAA (qAB l rows rows.length).1).toArray 115
     rw[←G.out,←c6];exact hB
    have e4:LkC col wr L (qAz l rows 0).2:=by
     show LkC col wr L (qAB l rows rows.length).2
     rw[←G.out,←c6];exact hL
    clear hB hL
    go_wp2_with fail
    clear c6 d0 hk
    go_loopw [10] (fun i wr=>∃k:Nat,i= .int .i64 ((N:Int) - 1 - (k:Int))∧k≤N - 1∧One 5 col col w wr∧Blk wr w.heap.size (qAA (qAz l rows k).1).toArray 115∧LkC col wr L (qAz l rows k).2) (fun i _=>(intOf i).toNat)
    case atStart=>exact⟨0,by simp,by omega,o1,f3,e4⟩
    case round =>
     obtain⟨F,rfl,f8,o3,a1,a3⟩:=hrel
     obtain⟨j,hj⟩:∃j:Nat,j=N - 1 - F:=⟨_,rfl⟩
     have b5:(N:Int) - 1 - (F:Int)=(j:Int):=by omega
     rw[b5]
     have HJ:=qh hj
     have e8:=qh b5
     clear b5
     by_cases f7:0<j
     · have m1:(0:Int)<(j:Int):=by omega
       have m2:(j:Int)<(N:Int):=by omega
       have m3:(2*(j:Int)+1)<2*(N:Int):=by omega
       have m4:IntKind.i64.wrap (2*(j:Int))=2*(j:Int):=by rw[IntKind.wrap_i64];omega
       have m5:IntKind.i64.wrap (2*(j:Int)+1)=2*(j:Int)+1:=by rw[IntKind.wrap_i64];omega
       have m6:2*(j:Int)<2*(N:Int):=by omega
       have m7:0≤2*(j:Int):=by omega
       have m8:0≤2*(j:Int)+1:=by omega
       have m9:(2*(j:Int)).toNat=2*j:=by omega
       have g1:(2*(j:Int)+1).toNat=2*j+1:=by omega
       have g0:0≤(j:Int):=by omega
       have f9:(j:Int)<2*(N:Int):=by omega
       have J:(qAz l rows F).1.length=2*N:=by rw[G.out];exact qCL l rows F
       have c7:(qAz l rows F).2.few 1000000:=Lk.few_mono (qEi hf rows F) (by rw[←G.out];omega)
       obtain⟨nd,b4⟩:∃x,x=(qAz l rows F).1:=⟨_,rfl⟩
       obtain⟨l2,c5⟩:∃x,x=(qAz l rows F).2:=⟨_,rfl⟩
       rw[←b4]at a1 J
       rw[←c5]at a3 c7
       have d6:=qh b4
       have d3:=qh c5
       have e1:=qCv nd (2*j) (by omega)
       have e2:=qCv nd (2*j+1) (by omega)
       have e3:=qCv nd j (by omega)
       have a9:=qHi nd j (l2.sumP (qCu nd j)) (by omega)
       obtain⟨s,q⟩:∃s,s=l2.sumP (qCu nd j):=⟨_,rfl⟩
       have a6:Hid (1::(qAJ ((nd[2*j]?.getD (0#64,0#64)).1,(nd[2*j]?.getD (0#64,0#64)).2)++qAJ ((nd[2*j+1]?.getD (0#64,0#64)).1,(nd[2*j+1]?.getD (0#64,0#64)).2))=qCu nd j):=qh rfl
       obtain⟨p1,b7⟩:∃x,x=(nd[2*j]?.getD (0#64,0#64)).1:=⟨_,rfl⟩
       obtain⟨p2,b8⟩:∃x,x=(nd[2*j]?.getD (0#64,0#64)).2:=⟨_,rfl⟩
       obtain⟨q1,b9⟩:∃x,x=(nd[2*j+1]?.getD (0#64,0#64)).1:=⟨_,rfl⟩
       obtain⟨q2,c4⟩:∃x,x=(nd[2*j+1]?.getD (0#64,0#64)).2:=⟨_,rfl⟩
       rw[←b7,←b8]at e1
       rw[←b9,←c4]at e2
       rw[←b7,←b8,←b9,←c4]at a6
       rw[←q]at a9
       have a8:=qh q
       replace J:=qh J
       obtain⟨s1,s2⟩:=s
       obtain⟨row,f⟩:∃r,r=qCu nd j:=⟨_,rfl⟩
       rw[←f]at a6 a8
       have b3:=qh f
       clear b4 c5 q b7 b8 b9 c4 hj f
       go_wp2_with fail
       refine qAf (qA8 (fun k=>k=w.heap.size)) [(0,0),(1,0),(2,0),(3,0),(4,0),(5,0),(6,0),(7,0),(8,0),(9,0),(10,0),(11,0),(12,0),(13,0),(14,1),(15,0),(16,2)] (by kernel_rfl) (by kernel_rfl) ?_ ?_ ?_
       · exact fun _=>qA8.refl _
       · exact fun _ _ _ h1 h2=>h1.trans h2
       intro z1 a0
       have a7:=a1.kept a0
       have e7:=a3.frame (qB0.kept a0 5)
       repeat
        refine qA0 _ rfl (fun K O=>?_)
        first
         | (refine qqP (by rfl) ?_;apply Exists.intro;refine⟨fun w' d7=>?_,O _ ?_⟩;(have c:=(d7.block _ a7.lt rfl).trans a7;have c0:=(Blk.cell c (2*j*2)).trans e1.1;have c1:=(Blk.cell c (2*j*2+1)).trans e1.2;have c2:=(Blk.cell c ((2*j+1)*2)).trans e2.1;have c3:=(Blk.cell c ((2*j+1)*2+1)).trans e2.2;clear c;go_simp;first|done|rfl))
         | refine qqN (by rfl) (O _ ?_)
        clear O K;simp only[Act.put,qqB]
       refine qqH _ rfl (by rfl) (fun K O=>?_)
       go_wp2_with fail
       refine(qPC col L l2 (p1,p2) (q1,q2) c7 z1 e7 (fun k hk=>o3.top k (Nat.le_trans a0.size hk))).mono ?_
       rintro e z2 ⟨rfl,e0,o4⟩
       rw[show l2.sumP (1::(qAJ (p1,p2)++qAJ (q1,q2)))=(s1,s2) by rw[a6.out,←a8.out]]
       rw[show l2.sumL (1::(qAJ (p1,p2)++qAJ (q1,q2)))=l2.sumL row by rw[a6.out]]at e0
       unfold Pr
       have Z:Blk z2 w.heap.size (qAA nd).toArray 115:=(o4.block _ a7.lt (by rw[ht _ qle];decide)).trans a7
       go_wp2
       refine O _ _ (⟨o4.os,o4.tape,o4.output,o4.size,fun k hk hA=>o4.block k hk (by subst hA;rw[ht _ qle];decide)⟩) ?_
       clear O K
       try simp only[Act.put,qqB]
       repeat
        refine qA0 _ rfl (fun K O=>?_)
        first
         | (refine qqP (by rfl) ?_;apply Exists.intro;refine⟨fun w' d7=>?_,O _ ?_⟩;go_simp;first|done|rfl)
         | refine qqN (by rfl) (O _ ?_)
        clear O K;simp only[Act.put,qqB]
       refine qAg _ rfl (fun K O=>?_)
       refine qqP (by rfl) ?_
       have f0:=Z.free (j*2)
       have f1:=Z.free (j*2+1)
       have x0:=(Z.cell (j*2)).trans e3.1
       have x1:=(Z.cell (j*2+1)).trans e3.2
       go_wp2
       refine qA6 ?_
       go_wp2_with fail
       have I:Chg [w.heap.size] z2 ((z2.setCell ⟨w.heap.size,j*2,none⟩ (U s1)).setCell ⟨w.heap.size,j*2+1,none⟩ (U s2)):=((Chg.refl _ _).set qsm (j*2) _).set qsm (j*2+1) _
       have bF:=(Z.set (j*2) (U s1)).set (j*2+1) (U s2)
       refine⟨⟨F+1,by congr 1;have:=e8.out;omega,by have:=HJ.out;omega,((o3.trans (One.kept o3.top a0)).trans o4).newset I qle,?_,?_⟩,by simp[intOf];omega⟩
       · rw[a9]at bF
         have e:qAz l rows (F+1)=(nd.set j (s1,s2),l2.sumL row):=by
          show(_,_)=_
          rw[←G.out,←d6.out,←d3.out,←HJ.out,←b3.out,←a8.out]
         rw[e]
         exact bF
       · have e:qAz l rows (F+1)=(nd.set j (s1,s2),l2.sumL row):=by
          show(_,_)=_
          rw[←G.out,←d6.out,←d3.out,←HJ.out,←b3.out,←a8.out]
         rw[e]
         exact e0.frame (qB0.chg (col:=col) I (i:=5) (by intro b hb;rw[List.mem_singleton]at hb;subst hb;rw[ht _ qle];decide))
     · have d4:F=N - 1:=by omega
       have f5:(j:Int)=0:=by omega
       have Y:qAz l rows F=qAX l rows:=by unfold qAX;rw[←G.out,d4]
       rw[Y]at a1 a3
       replace Y:=qh Y
       clear d4
       go_wp2_with fail
       refine bodyPost_ret (v:=.tuple #[.slice (some ⟨w.heap.size,0,none⟩) (2*N) (2*N),.bool true]) (by simp[results,results106,go_sem];done) rfl ⟨_,rfl,a1,Nat.le_refl _,a3,o3⟩
end Go.Proofs.YtdlgihbpiakebaaGreat
